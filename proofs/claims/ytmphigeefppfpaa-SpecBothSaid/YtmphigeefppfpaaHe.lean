/- spec.explored at whole numbers. -/
import Derived.Test.YtmphigeefppfpaaHa
import Derived.Test.YtmphigeefppfpaaHp
namespace Go.Proofs.Ytmphigeefppfpaa.H
open Go.RowKit Go.Proofs.YtmphigeefppfpaaW.PrintWords Go.Proofs.YtmphigeefppfpaaW.PrintLast Go.Proofs.YtmphigeefppfpaaW.PrintMore
set_option linter.unusedVariables false

theorem info3 : (Try.prog.info? 3).map (fun i => (i.zero, i.size, i.bytes)) = some (some (.int .i64 0), 1, 8) := by kernel_rfl
theorem info25 : (Try.prog.info? 25).map (fun i => (i.zero, i.size, i.bytes)) = some (some (.slice none 0 0), 1, 24) := by kernel_rfl
def wf64 (x : Int) : Prop := (Lit.int .i64 x).wf = true
theorem keyInt : KeyB Try.prog 3 (Value.int .i64) wf64 where
  K := Go.Maps.int_keyed Try.underlying3
  lit := fun _ h => ⟨_, Go.Maps.keyOf_int_mk Try.underlying3 h⟩
  inj := fun x y h => by cases h; rfl
def encN (n : Nat) : Value := .int .i64 n
theorem zero3 (w : World) : (zeroValue 3).run Try.prog w = .ok (.int .i64 0) w := by kernel_rfl

theorem rd_at {xs : List Int} {j : Nat} (h : j < xs.length) : rd xs (j : Int) = xs[j] := by
  simp [rd, List.getD_eq_getElem?_getD, List.getElem?_eq_getElem h]
/-- Two sets of blocks apart. -/
def Disj (A B : Nat → Prop) : Prop := ∀ k, A k → ¬ B k
theorem R_formB {α : Type} {d : Kd α} {e base : Nat} {ok : Nat → Prop} {w : World} {v : Value} {xs : List α} (h : d.R e w base ok v xs) {b : Nat} (hb : v.ownBlock = some b) : ∃ cap, v = .slice (some ⟨b, 0, none⟩) xs.length cap := by
  obtain ⟨_, inner, ho, _⟩ := h
  rcases ho.2 with ⟨rfl, _⟩ | ⟨g, cap, cur, rfl, _⟩
  · simp [Value.ownBlock] at hb
  · have : g = b := by simpa [Value.ownBlock] using hb
    subst this
    exact ⟨cap, rfl⟩
/-- One number in a new block. -/
theorem R_new1 (W : World) (x : Int) (base : Nat) (hb : base ≤ W.heap.size) : Kd.R (Kd.int .i64) 3 (W.alloc (.cells #[.int .i64 x] 3)) base (fun k => k = W.heap.size) (.slice (some ⟨W.heap.size, 0, none⟩) 1 1) [x] := by
  refine ⟨fun k hk => ?_, [.int .i64 x], ⟨by simp [Kd.int, Kd.scalar], .inr ⟨W.heap.size, 1, #[.int .i64 x], rfl, hb, blk_new _ _, by simp, by decide, by simp [Kd.int, Kd.scalar], by simp [Kd.int, Kd.scalar]⟩⟩, ?_⟩
  · have : W.heap.size = k := by simpa [Value.ownBlock] using hk
    omega
  · exact Reps.one (show Kd.M (Kd.int .i64) _ _ _ x [.int .i64 x] from rfl) (Reps.none _ _)
section
variable {α β : Type} {d : Kd α} {d' : Kd β} {e e' base : Nat} {S T : Nat → Prop} {W W1 : World} {v u : Value} {xs : List α} {ys : List β}
/-- What lies apart from the row that was written stays, and lies apart from what is new. -/
theorem R_stay (h : d.R e W base S v xs) {row : Option Nat} (hg : W.grownBy W1 row) (hne : ∀ k, row = some k → ¬ S k) : d.R e W1 base (fun k => S k ∧ k < W.heap.size) v xs :=
  Kd.R_mono (Kd.R_step (Kd.R_bound h) (fun k hk hlt => hg.block k hlt (fun he => hne k he.symm hk.1))) (fun k hk => ⟨hk.1, hk.2.2.1⟩)
theorem R_row (h : d.R e W base S v xs) : ∀ k, v.ownBlock = some k → S k := h.1
theorem Disj.symm {A B : Nat → Prop} (h : Disj A B) : Disj B A := fun k hb ha => h k ha hb
theorem Disj.fresh {A B : Nat → Prop} (h : Disj A B) (N : Nat) : Disj (fun k => A k ∨ N ≤ k) (fun k => B k ∧ k < N) := fun k ha hb => by
  rcases ha with ha | ha
  · exact h k ha hb.1
  · have := hb.2; omega
theorem Disj.less {A B : Nat → Prop} (h : Disj A B) (N : Nat) : Disj (fun k => A k ∧ k < N) (fun k => B k ∧ k < N) := fun k ha hb => h k ha.1 hb.1
theorem MapIs.stay {κ ν : Type} {B : Nat} {enc : κ → Value} {encV : ν → Value} {dom : κ → Prop} {es : List (κ × ν)} (h : MapIs W B enc encV dom es) (hr : d.R e W base S v xs) (hg : W.grownBy W1 v.ownBlock) : MapIs W1 B enc encV dom es :=
  h.grown hg (fun he => by
    obtain ⟨cells, hc⟩ := Kd.R_typed hr B he.symm
    exact h.ne_row hc rfl)
end

/-- A step function handed over. -/
def StepW (g : Nat) (lb : Array Value) (D : Int → Prop) (n : Nat) (step : Int → Nat → Int × Bool) (w : World) : Prop :=
  ∀ (W : World) (x : Int) (e : Nat), Below w.heap.size w W → D x → e < n → Calls Try.prog g (#[.int .i64 x, .int .i64 e] ++ lb) W fun E w' => E = .returned (.tuple #[.int .i64 (step x e).1, .bool (step x e).2]) ∧ Below W.heap.size W w'

/-- The rows and the queue are the call's own, apart from each other. -/
def ExEnd (n : Nat) (step : Int → Nat → Int × Bool) (start : Int) (m : Nat) (w : World) (e : Ending) (w' : World) : Prop :=
  ∃ (ov qv : Value) (So Sq : Nat → Prop), e = .returned (.tuple #[ov, qv]) ∧ (∀ k, So k → ¬ Sq k) ∧ Kd.R (Kd.slice 3 (Kd.int .i64)) 25 w' w.heap.size So ov (bfsTo n step start m).1 ∧ Kd.R (Kd.int .i64) 3 w' w.heap.size Sq qv (bfsTo n step start m).2 ∧ Below w.heap.size w w'

set_option maxHeartbeats 4000000 in
set_option maxRecDepth 100000 in
theorem explored_calls (n : Nat) (start : Int) (g : Nat) (lb : Array Value) (D : Int → Prop) (step : Int → Nat → Int × Bool) (m : Nat) (w : World) (hn : n ≤ 16) (hm : m ≤ 100000) (hend : (bfsTo n step start m).2.length ≤ m)
    (hp : StepW g lb D n step w) (h0 : D start) (hstep : ∀ x e, D x → e < n → (step x e).2 = true → D (step x e).1) (hD : ∀ x, D x → wf64 x)
    (eg : ∀ args w, (callFunc g args).run Try.prog w = .ok (.enter g args) w) :
    Calls Try.prog 63 #[.int .i64 n, .int .i64 start, .func (.func g) #[] lb] w (ExEnd n step start m w) := by
  have hmm := @run_makeMap Try.prog
  obtain ⟨wm, hrun, HM0, hgm⟩ := MapIs.put (mapIs_new w (Value.int .i64) encN wf64) keyInt Try.underlying86 (hD _ h0) 0
  have hrun' : (Instr.mapUpdate 86 (.map (some w.heap.size)) (.int .i64 start) (.int .i64 0)).run Try.prog (w.alloc (.map #[] 0)) = .ok () wm := hrun
  clear hrun
  have HP := Aside0.mk hp
  have HM0 := Aside0.mk HM0
  have HG := Aside0.mk hgm
  have HE := Aside0.mk hend
  have HS := Aside0.mk hstep
  have HD := Aside0.mk hD
  have HD0 := Aside0.mk h0
  clear hp hgm hend hstep hD h0
  go_enter Try.func63, Try.ntmps63
  go_wp2
  have HB0 := Aside0.mk (below_alloc (pw_below_grown (below_alloc (Below.refl _ _) _) _ (by simp) HG.out (fun k hk => by cases hk; exact Nat.le_refl _)) (.cells #[.int .i64 start] 3))
  have HQ0 := Aside0.mk (R_new1 wm start w.heap.size (by have := (HG.out).size; simp at this; omega))
  have HM1 := Aside0.mk (MapIs.below HM0.out (below_alloc (Below.refl _ _) (.cells #[.int .i64 start] 3)))
  clear HM0 HG hrun'
  go_loopg [9, 10, 11] m (fun gg v9 v10 v11 wr => ∃ (i : Nat) (So Sq : Nat → Prop), i ≤ m ∧ m - i ≤ gg ∧ v11 = .int .i64 i ∧ Aside0 (Disj So Sq) ∧ Aside0 (Below w.heap.size w wr) ∧ Aside0 (MapIs wr w.heap.size (Value.int .i64) encN wf64 (bfsTo n step start i).2.zipIdx) ∧ Aside0 (Kd.R (Kd.int .i64) 3 wr w.heap.size Sq v9 (bfsTo n step start i).2) ∧ Aside0 (Kd.R (Kd.slice 3 (Kd.int .i64)) 25 wr w.heap.size So v10 (bfsTo n step start i).1))
  case atStart =>
    exact ⟨0, fun _ => False, fun k => k = wm.heap.size, by omega, by omega, rfl, ⟨fun _ h => h.elim⟩, HB0, HM1, HQ0, ⟨Kd.R_nil _ _ _ _ _⟩⟩
  case round =>
    clear HB0 HQ0 HM1
    obtain ⟨i, So, Sq, him, hg, rfl, HDJ, HB, HM, HQ, HO⟩ := hrel
    obtain ⟨A9, c9, rfl⟩ := Kd.R_slice HQ.out
    obtain ⟨A10, c10, rfl⟩ := Kd.R_slice HO.out
    have hmono := Aside0.mk (Nat.le_trans (bfsTo_mono (n := n) (step := step) (start := start) him) HE.out)
    by_cases hlt : i < (bfsTo n step start i).2.length
    · have hltz : (i : Int) < ((bfsTo n step start i).2.length : Int) := by omega
      have HST := Aside0.mk (bfsTo_step (n := n) (step := step) (start := start) hlt)
      have hqm := Aside0.mk (Nat.le_trans (bfsTo_mono (n := n) (step := step) (start := start) (i := i + 1) (m := m) (by have := hmono.out; omega)) HE.out)
      have HXD := Aside0.mk (bfsTo_all (n := n) (D := D) HS.out HD0.out i _ (List.getElem_mem hlt))
      have HQD := Aside0.mk (bfsTo_all (n := n) (D := D) HS.out HD0.out i)
      have HXI := Aside0.mk (List.getElem?_eq_getElem hlt)
      have HOL := Aside0.mk (bfsTo_out (n := n) (step := step) (start := start) (i := i))
      generalize (bfsTo n step start i).2[i] = x at *
      rw [HST.out] at hqm
      have him2 : i + 1 ≤ m := by
        have h1 := hmono.out
        omega
      clear hmono
      generalize (bfsTo n step start i).2 = q at *
      generalize (bfsTo n step start i).1 = o at *
      go_wp2_with ((with_reducible refine gate_dst (N := 30) rfl ?_); refine Kd.R_make (Kd.int .i64) w.heap.size 3 rfl (N := 30) rfl 25 _ _ rfl (n : Int) rfl rfl Try.underlying25 (.int .i64 0) 8 info3 rfl (by decide) (by omega) 0 (ok := fun k => wr.heap.size ≤ k) (okp := fun _ => False) rfl (fun _ hk => hk.elim) (Nat.le_refl _) (by omega) (by omega) HB.out (HB.out).size ?_; intro v1 w1 hr1 hb1 hg1 hnew1)
      obtain ⟨rb, hrb, hrb2⟩ := hnew1
      obtain ⟨capr, hv1⟩ := R_formB hr1 hrb
      rw [List.length_replicate, Int.toNat_natCast] at hv1
      subst hv1
      have HR1 := Aside0.mk hr1
      have HB1 := Aside0.mk hb1
      have HM1 := Aside0.mk ((HM.out).grown hg1 (by simp))
      have HQ1 := Aside0.mk (R_stay HQ.out hg1 (by simp))
      have HO1 := Aside0.mk (R_stay HO.out hg1 (by simp))
      have HDJ1 := Aside0.mk ((HDJ.out).less wr.heap.size)
      have HDR1 := Aside0.mk (show Disj (fun k => So k ∧ k < wr.heap.size) (fun k => wr.heap.size ≤ k) from fun k ha hb => by have := ha.2; omega)
      have HDS1 := Aside0.mk (show Disj (fun k => Sq k ∧ k < wr.heap.size) (fun k => wr.heap.size ≤ k) from fun k ha hb => by have := ha.2; omega)
      clear hr1 hb1 hg1 HM HQ HO hrb hrb2 HDJ HB
      rw [Int.toNat_natCast] at HR1
      generalize (fun k => So k ∧ k < wr.heap.size) = So1 at *
      generalize (fun k => Sq k ∧ k < wr.heap.size) = Sq1 at *
      generalize (fun k => wr.heap.size ≤ k) = Sr1 at *
      go_wp2
      go_loopg [9, 32] n (fun gk v9 v32 wi => ∃ (e : Nat) (So Sq Sr : Nat → Prop), e ≤ n ∧ n - e ≤ gk ∧ v32 = .int .i64 e ∧ Aside0 (Disj So Sq) ∧ Aside0 (Disj So Sr) ∧ Aside0 (Disj Sq Sr) ∧ Aside0 (Below w.heap.size w wi) ∧
        Aside0 (MapIs wi w.heap.size (Value.int .i64) encN wf64 (rowTo step x q e).2.zipIdx) ∧ Aside0 (Kd.R (Kd.int .i64) 3 wi w.heap.size Sq v9 (rowTo step x q e).2) ∧
        Aside0 (Kd.R (Kd.slice 3 (Kd.int .i64)) 25 wi w.heap.size So (.slice A10 o.length c10) o) ∧ Aside0 (Kd.R (Kd.int .i64) 3 wi w.heap.size Sr (.slice (some ⟨rb, 0, none⟩) n capr) ((rowTo step x q e).1 ++ List.replicate (n - e) 0)))
      case atStart => exact ⟨0, So1, Sq1, Sr1, by omega, by omega, rfl, HDJ1, HDR1, HDS1, HB1, HM1, HQ1, HO1, HR1⟩
      case round =>
        clear HDJ1 HDR1 HDS1 HB1 HM1 HQ1 HO1 HR1 So1 Sq1 Sr1 So Sq
        obtain ⟨e, So, Sq, Sr, hen, hgk, rfl, HDJ, HDR, HDS, HB, HM, HQ, HO, HR⟩ := hrel
        by_cases hle : e < n
        · have hlez : (e : Int) < (n : Int) := by omega
          obtain ⟨A9, c9, rfl⟩ := Kd.R_slice HQ.out
          obtain ⟨hc1, hf1⟩ := Kd.R_celln 0 HR.out (e : Int) (by omega) (by omega)
          rw [Int.toNat_natCast] at hc1 hf1
          have HPUT := Kd.R_putg HR.out (e : Int) (-1)
          rw [Int.toNat_natCast, set_next rowTo_len hle] at HPUT
          have HRB := Aside0.mk (HR.out.1 rb rfl)
          have HPUT := Aside0.mk HPUT
          go_upto_region 12 with (fail)
          clear hc1 hf1
          have HR2 := Aside0.mk (HPUT.out).1
          have hg2 := (HPUT.out).2
          have HQ2 := Aside0.mk (R_stay HQ.out hg2 (fun k hk => by cases hk; exact fun h => HDS.out _ h HRB.out))
          have HO2 := Aside0.mk (R_stay HO.out hg2 (fun k hk => by cases hk; exact fun h => HDR.out _ h HRB.out))
          have HM2 := Aside0.mk (MapIs.stay HM.out HR.out hg2)
          have HB2 := Aside0.mk (pw_below_grown HB.out _ (HB.out).size hg2 (Kd.R_base HR.out))
          have HDJ2 := Aside0.mk ((HDJ.out).less wr.heap.size)
          have HDR2 := Aside0.mk (show Disj (fun k => So k ∧ k < wr.heap.size) Sr from fun k ha hb => HDR.out k ha.1 hb)
          have HDS2 := Aside0.mk (show Disj (fun k => Sq k ∧ k < wr.heap.size) Sr from fun k ha hb => HDS.out k ha.1 hb)
          clear HPUT HR HQ HO HM HB HDJ HDR HDS hg2
          generalize (wr.setCell ⟨rb, e, none⟩ (Value.int .i64 (-1))) = w2 at *
          generalize (fun k => So k ∧ k < wr.heap.size) = So2 at *
          generalize (fun k => Sq k ∧ k < wr.heap.size) = Sq2 at *
          have hpre : i < (rowTo step x q e).2.length ∧ rd (rowTo step x q e).2 (i : Int) = x := by
            obtain ⟨r, hr⟩ := rowTo_pre (step := step) (x := x) (q := q) (e := e)
            rw [hr]
            refine ⟨by rw [List.length_append]; omega, ?_⟩
            rw [rd_at (by rw [List.length_append]; omega), List.getElem_append_left (by omega)]
            exact (List.getElem?_eq_some_iff.1 HXI.out).2
          obtain ⟨hpre1, hpre2⟩ := hpre
          have hprez : (i : Int) < ((rowTo step x q e).2.length : Int) := by omega
          obtain ⟨ad, e0, hx⟩ := Kd.at_int (Kd.R_reads' HQ2.out).2.2 (i : Int) (by omega) hprez
          cases e0
          rw [Int.toNat_natCast, hpre2] at hx
          clear hpre2
          have hcall := Aside0.mk (HP.out w2 x e HB2.out HXD.out hle)
          have HRS := Aside0.mk (show rowTo step x q (e + 1) = if (step x e).2 then ((rowTo step x q e).1 ++ [((rowTo step x q e).2.idxOf (step x e).1 : Int)], ins (rowTo step x q e).2 (step x e).1) else ((rowTo step x q e).1 ++ [-1], (rowTo step x q e).2) from rfl)
          have HYD := Aside0.mk (HS.out x e HXD.out hle)
          have hqlen := Aside0.mk (Nat.le_trans (rowTo_mono (step := step) (x := x) (q := q) (e := e) (e' := n) (by omega)) hqm.out)
          have hqlen1 := Aside0.mk (Nat.le_trans (rowTo_mono (step := step) (x := x) (q := q) (e := e + 1) (e' := n) (by omega)) hqm.out)
          generalize (step x e).1 = y at *
          cases hok : (step x e).2 with
          | false =>
            simp only [hok, Bool.false_eq_true, if_false] at HRS hcall
            go_wp2_with fail
            refine hcall.out.mono ?_
            rintro E w3 ⟨rfl, hb⟩
            have HB3 := Aside0.mk (below_then HB2.out (HB2.out).size hb)
            have HM3 := Aside0.mk (MapIs.below HM2.out hb)
            have HQ3 := Aside0.mk (Kd.R_below HQ2.out hb)
            have HO3 := Aside0.mk (Kd.R_below HO2.out hb)
            have HR3 := Aside0.mk (Kd.R_below HR2.out hb)
            clear hb HB2 HM2 HQ2 HO2 HR2 hcall hx
            go_wp2
            go_roundg (n - (e + 1))
            case measure => omega
            case rel =>
              refine ⟨e + 1, So2, Sq2, Sr, by omega, by omega, by go_num, HDJ2, HDR2, HDS2, HB3, ?_, ?_, HO3, ?_⟩
              · rw [HRS.out]; exact HM3
              · rw [HRS.out]; exact HQ3
              · rw [HRS.out]; exact HR3
          | true =>
            simp only [hok, if_true] at HRS hcall
            have HY := Aside0.mk (HYD.out hok)
            clear hok HYD
            go_wp2_with fail
            refine hcall.out.mono ?_
            rintro E w3 ⟨rfl, hb⟩
            have HB3 := Aside0.mk (below_then HB2.out (HB2.out).size hb)
            have HM3 := Aside0.mk (MapIs.below HM2.out hb)
            have HQ3 := Aside0.mk (Kd.R_below HQ2.out hb)
            have HO3 := Aside0.mk (Kd.R_below HO2.out hb)
            have HR3 := Aside0.mk (Kd.R_below HR2.out hb)
            clear hb HB2 HM2 HQ2 HO2 HR2 hcall hx
            have hl := MapIs.look HM3.out keyInt Try.underlying86 (zero3 w3) (HD.out y HY.out) true
            rw [mget_zip] at hl
            have HRB := Aside0.mk (HR3.out.1 rb rfl)
            by_cases hmem : y ∈ (rowTo step x q e).2
            · simp only [hmem, if_true] at hl
              have HRS := Aside0.mk (HRS.out.trans (by rw [ins, if_pos hmem]))
              clear hmem
              generalize (rowTo step x q e).2 = qe at *
              generalize hk : (List.idxOf y qe) = kk at *
              have HPUT := Kd.R_putg HR3.out (e : Int) (kk : Int)
              rw [Int.toNat_natCast, set_last rowTo_len] at HPUT
              obtain ⟨hc1, hf1⟩ := Kd.R_celln 0 HR3.out (e : Int) (by omega) (by omega)
              rw [Int.toNat_natCast] at hc1 hf1
              have HPUT := Aside0.mk HPUT
              unfold encN at hl
              go_wp2
              go_roundg (n - (e + 1))
              case measure => omega
              case rel =>
                have hg4 := (HPUT.out).2
                refine ⟨e + 1, fun k => So2 k ∧ k < w3.heap.size, fun k => Sq2 k ∧ k < w3.heap.size, Sr, by omega, by omega, by go_num, ⟨(HDJ2.out).less w3.heap.size⟩, ⟨fun k ha hb => HDR2.out k ha.1 hb⟩, ⟨fun k ha hb => HDS2.out k ha.1 hb⟩, ⟨pw_below_grown HB3.out _ (HB3.out).size hg4 (Kd.R_base HR3.out)⟩, ?_, ?_, ⟨R_stay HO3.out hg4 (fun k hk => by cases hk; exact fun h => HDR2.out _ h HRB.out)⟩, ?_⟩
                · rw [HRS.out]; exact ⟨MapIs.stay HM3.out HR3.out hg4⟩
                · rw [HRS.out]; exact ⟨R_stay HQ3.out hg4 (fun k hk => by cases hk; exact fun h => HDS2.out _ h HRB.out)⟩
                · rw [HRS.out]; exact ⟨(HPUT.out).1⟩
            · simp only [hmem, if_false] at hl
              have HRS := Aside0.mk (HRS.out.trans (by rw [ins, if_neg hmem, idxOf_new hmem]))
              have HNEW := Aside0.mk (mput_zip hmem)
              rw [HRS.out] at hqlen1
              clear hmem
              generalize (rowTo step x q e).2 = qe at *
              obtain ⟨w4, hput, HM4, hg4⟩ := MapIs.put HM3.out keyInt Try.underlying86 (HD.out y HY.out) qe.length
              rw [HNEW.out] at HM4
              have HM4 := Aside0.mk HM4
              have HB4 := Aside0.mk (pw_below_grown HB3.out _ (HB3.out).size hg4 (fun k hk => by cases hk; exact Nat.le_refl _))
              have hmb : ∀ {α : Type} {d : Kd α} {e base : Nat} {S : Nat → Prop} {v : Value} {xs : List α}, d.R e w3 base S v xs → d.R e w4 base (fun k => S k ∧ k < w3.heap.size) v xs := fun h =>
                Kd.R_mono (Kd.R_step (Kd.R_bound h) (fun k hk hlt => hg4.block k hlt (fun he => by
                  cases he
                  obtain ⟨_, _, _, q, _, cells, hc⟩ := hk
                  exact (HM3.out).ne_row hc rfl))) (fun k hk => ⟨hk.1, hk.2.2.1⟩)
              have HQ4 := Aside0.mk (hmb HQ3.out)
              have HO4 := Aside0.mk (hmb HO3.out)
              have HR4 := Aside0.mk (hmb HR3.out)
              have HDJ4 := Aside0.mk ((HDJ2.out).less w3.heap.size)
              have HDR4 := Aside0.mk ((HDR2.out).less w3.heap.size)
              have HDS4 := Aside0.mk ((HDS2.out).less w3.heap.size)
              have HG4 := Aside0.mk hg4
              clear hmb HM3 HQ3 HO3 HR3 HDJ2 HDR2 HDS2 hg4 HRB HB3
              unfold encN at hput
              rw [if_pos trivial] at hl
              generalize (fun k => So2 k ∧ k < w3.heap.size) = So4 at *
              generalize (fun k => Sq2 k ∧ k < w3.heap.size) = Sq4 at *
              generalize (fun k => Sr k ∧ k < w3.heap.size) = Sr4 at *
              have hlen5 : (qe.length + 1) * 8 ≤ 140737488355328 := by
                have := hqlen1.out
                simp only [List.length_append, List.length_singleton] at this
                omega
              go_wp2_with ((with_reducible refine gate_builtin (b := .append) (xs := #[.tmp 63, .tmp 65]) rfl ?_); at_builtin; refine Kd.R_append (Kd.int .i64) (w0 := w) w.heap.size rfl (.tmp 63) (.tmp 65) 25 3 (.int .i64 0) 8 rfl Try.underlying25 info3 rfl (by decide) (by omega) (.slice (some ad) qe.length c9) qe y [.int .i64 y] (fun k => Sq4 k ∨ w4.heap.size ≤ k) (fun _ => False) rfl rfl rfl (fun _ hk => hk.elim) (fun k hk => .inr hk) (Kd.R_mono HQ4.out (fun _ hk => .inl hk)) HB4.out (HB4.out).size hlen5 ?_; intro v5 w5 ho5 hb5 hg5 hat5; have HQ5 := Aside0.mk ho5; have HB5 := Aside0.mk hb5; have HM5 := Aside0.mk (MapIs.stay HM4.out HQ4.out hg5); have HO5 := Aside0.mk (R_stay HO4.out hg5 (fun k hk h => HDJ4.out k h (HQ4.out.1 k hk))); have HR5 := Aside0.mk (R_stay HR4.out hg5 (fun k hk h => HDS4.out k (HQ4.out.1 k hk) h)); clear ho5 hb5 hg5 hat5 HQ4 HB4 HM4; (obtain ⟨hc1, hf1⟩ := Kd.R_celln 0 HR5.out (e : Int) (by omega) (by omega)); rw [Int.toNat_natCast] at hc1 hf1)
              have HPUT := Kd.R_putg HR5.out (e : Int) (qe.length : Int)
              rw [Int.toNat_natCast, set_last rowTo_len] at HPUT
              have HPUT := Aside0.mk HPUT
              have HRB := Aside0.mk (HR5.out.1 rb rfl)
              go_roundg (n - (e + 1))
              case measure => omega
              case rel =>
                have hg6 := (HPUT.out).2
                have HDR5 := (HDR4.out).less w4.heap.size
                have HDJ5 := (HDJ4.out).symm.fresh w4.heap.size
                have HDS5 := (HDS4.out).fresh w4.heap.size
                refine ⟨e + 1, _, fun k => (Sq4 k ∨ w4.heap.size ≤ k) ∧ k < w5.heap.size, _, by omega, by omega, by go_num, ⟨fun k ha hb => HDJ5 k hb.1 ha.1⟩, ⟨fun k ha hb => HDR5 k ha.1 hb⟩, ⟨fun k ha hb => HDS5 k ha.1 hb⟩, ⟨pw_below_grown HB5.out _ (HB5.out).size hg6 (Kd.R_base HR5.out)⟩, ?_, ?_, ⟨R_stay HO5.out hg6 (fun k hk => by cases hk; exact fun h => HDR5 _ h HRB.out)⟩, ?_⟩
                · rw [HRS.out]; exact ⟨MapIs.stay HM5.out HR5.out hg6⟩
                · rw [HRS.out]; exact ⟨R_stay HQ5.out hg6 (fun k hk => by cases hk; exact fun h => HDS5 _ h HRB.out)⟩
                · rw [HRS.out]; exact ⟨(HPUT.out).1⟩
        · have hlez : ¬ (e : Int) < (n : Int) := by omega
          obtain rfl : e = n := by omega
          obtain ⟨A9, c9, rfl⟩ := Kd.R_slice HQ.out
          rw [Nat.sub_self, List.replicate_zero, List.append_nil] at HR
          have hlo : (o.length + 1) * 24 ≤ 140737488355328 := by have := HOL.out; omega
          go_wp2_with ((with_reducible refine gate_builtin (b := .append) (xs := #[.tmp 72, .tmp 74]) rfl ?_); at_builtin; refine Kd.R_append (Kd.slice 3 (Kd.int .i64)) (w0 := w) w.heap.size rfl (.tmp 72) (.tmp 74) 67 25 (.slice none 0 0) 24 rfl Try.underlying67 info25 rfl (by decide) (by omega) (.slice A10 o.length c10) o (rowTo step x q e).1 [.slice (some ⟨rb, 0, none⟩) e capr] (fun k => (So k ∨ Sr k) ∨ wr.heap.size ≤ k) Sr rfl rfl ⟨_, rfl, HR.out⟩ (fun k hk => ⟨.inl (.inr hk), fun he => HDR.out k (HO.out.1 k he.symm) hk⟩) (fun k hk => .inr hk) (Kd.R_mono HO.out (fun _ hk => .inl (.inl hk))) HB.out (HB.out).size hlo ?_; intro v5 w5 ho5 hb5 hg5 hat5; have HO5 := Aside0.mk ho5; have HB5 := Aside0.mk hb5; have HM5 := Aside0.mk (MapIs.stay HM.out HO.out hg5); have HQ5 := Aside0.mk (R_stay HQ.out hg5 (fun k hk h => HDJ.out k (HO.out.1 k hk) h)); clear ho5 hb5 hg5 hat5 HO HB HM HQ HR)
          go_roundg (m - (i + 1))
          case measure => omega
          case rel =>
            refine ⟨i + 1, fun k => (So k ∨ Sr k) ∨ wr.heap.size ≤ k, fun k => Sq k ∧ k < wr.heap.size, him2, by omega, by go_num, ?_, HB5, ?_, ?_, ?_⟩
            rotate_left 1
            · rw [HST.out]; exact HM5
            · rw [HST.out]; exact HQ5
            · rw [HST.out]; exact HO5
            · refine ⟨fun k ha hb => ?_⟩
              rcases ha with (ha | ha) | ha
              · exact HDJ.out k ha hb.1
              · exact HDS.out k hb.1 ha
              · have := hb.2; omega
    · have hltz : ¬ (i : Int) < ((bfsTo n step start i).2.length : Int) := by omega
      have HFin := Aside0.mk (show bfsTo n step start m = bfsTo n step start i by
        have := bfsTo_stays (n := n) (step := step) (start := start) hlt (m - i)
        rwa [show i + (m - i) = m from by omega] at this)
      clear hmono
      generalize hq : (bfsTo n step start i) = bi at *
      clear hq
      go_wp2
      go_ret2
      refine ⟨_, _, So, Sq, rfl, HDJ.out, ?_, ?_, HB.out⟩
      · rw [HFin.out]; exact HO.out
      · rw [HFin.out]; exact HQ.out
end Go.Proofs.Ytmphigeefppfpaa.H
