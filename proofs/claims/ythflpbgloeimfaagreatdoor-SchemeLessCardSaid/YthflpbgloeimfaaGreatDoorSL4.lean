/- What schemeLess_calls, handed_and_shaped, own, laidOut, laid7, mx_of_shaped, arg_scheme needs, out of my texts, by a program (slim.py). -/
import Derived.Test.YthflpbgloeimfaaGreatDoorSL3
namespace Go.Proofs.YthflpbgloeimfaaGreatDoor.H
open Go.RowKit Go.Proofs.YthflpbgloeimfaaGreatDoorW.PrintWords Go.Proofs.YthflpbgloeimfaaGreatDoorW.PrintLast Go.Proofs.YthflpbgloeimfaaGreatDoorW.PrintMore
open Go.Proofs.YthflpbgloeimfaaGreatDoor.Q (S47 k47 rd_T47 z47 at_T47 S50 k50 rd_T50 z50 at_T50 S52 k52 rd_T52 at_T52 z52 S71 k71 rd_T71 at_T71)
set_option linter.unusedVariables false
set_option linter.unusedSimpArgs false
theorem sidle_calls (p q : Addr) (w : World) :
    CallsD Tryz.prog 102 #[.pointer (some p), .pointer (some q)] .returning w fun e u' w' => e = .returned (.tuple #[]) ∧ u' = .returning ∧ w' = w := by
  refine callsD_of_wpS Tryz.func102 rfl fun c₀ cs hu => ?_
  apply wpS_seq
  apply wpS_region
  simp [wpOpsS, go_sem, recoverD, hu, Tryz.ntmps102, Exit.thenS]
  apply wpS_seq
  apply wpS_region
  simp [wpOpsS, go_sem, Exit.thenS]
  refine wpS_cond (t := false) (by simp [Act.eval, Array.replicate]) ?_
  simp only [Bool.false_eq_true, if_false]
  refine wpS_of_wp (wp_skip ?_)
  cases c₀
  simp_all [bodyPostS, results, Tryz.results102]
set_option maxHeartbeats 4000000 in
set_option maxRecDepth 100000 in
theorem sbad_calls (a : Nat) (x e : Value) (w : World) (h0 : w.heap[a]? = some (.cells #[x] 47 (0, 0))) (h1 : w.heap[a + 1]? = some (.cells #[e] 26 (0, 0))) :
    CallsD Tryz.prog 102 #[.pointer (some ⟨a, 0, none⟩), .pointer (some ⟨a + 1, 0, none⟩)] (.panicking [{ v := .iface 138 (.agg #[]), recovered := false }]) w fun e u' w' =>
      e = .returned (.tuple #[]) ∧ u' = .panicking [{ v := .iface 138 (.agg #[]), recovered := true }] ∧ w'.heap[a]? = some (.cells #[.slice none 0 0] 47 (0, 0)) ∧ w'.heap[a + 1]? = some (.cells #[.int .i64 4] 26 (0, 0)) ∧ Below a w w' := by
  refine callsD_of_wpS Tryz.func102 rfl fun c₀ cs hu => ?_
  apply wpS_seq
  apply wpS_region
  simp [wpOpsS, go_sem, recoverD, hu, Tryz.ntmps102, Exit.thenS]
  refine wpS_of_wp ?_
  rw [show (#[Value.pointer (some ⟨a, 0, none⟩), Value.pointer (some ⟨a + 1, 0, none⟩)] ++ ((Array.replicate 15 undef).setIfInBounds 3 (Value.iface 138 (Value.agg #[]))).setIfInBounds 0 (Value.iface 138 (Value.agg #[]))) = #[Value.pointer (some ⟨a, 0, none⟩), Value.pointer (some ⟨a + 1, 0, none⟩), Value.iface 138 (Value.agg #[]), undef, undef, Value.iface 138 (Value.agg #[]), undef, undef, undef, undef, undef, undef, undef, undef, undef, undef, undef] from rfl]
  have hta : ∀ W : World, (Instr.typeAssert (Value.iface 138 (Value.agg #[])) 20 138 true).run Tryz.prog W = .ok (.tuple #[.agg #[], .bool true]) W := fun W => by kernel_rfl
  have HB := Aside0.mk (below_alloc (Below.refl w.heap.size w) (.cells #[] 138))
  have HQ0 := Aside0.mk hu
  have ha : a < w.heap.size := (Array.getElem?_eq_some_iff.1 h0).1
  generalize hQ : bodyPostS Tryz.prog Tryz.f102 c₀ cs _ = QQ
  have HQ := Aside0.mk hQ
  clear hQ
  go_upto_region 5 with (fail)
  have H0 := Aside0.mk (blk_below h0 HB.out)
  have H1 := Aside0.mk (blk_below h1 HB.out)
  clear h0 h1
  generalize w.alloc (.cells #[] 138) = W2 at *
  have c0 : W2.cell? ⟨a, 0, none⟩ = some x := (blk_cell H0.out 0).trans rfl
  have c3 : W2.cell? ⟨a + 1, 0, none⟩ = some e := (blk_cell H1.out 0).trans rfl
  have f0 : W2.frozen? ⟨a, 0, none⟩ = false := blk_frozen H0.out 0
  have f3 : W2.frozen? ⟨a + 1, 0, none⟩ = false := blk_frozen H1.out 0
  go_wp2
  rw [← HQ.out]
  have hB := Below.mono HB.out (show a ≤ w.heap.size from Nat.le_of_lt ha)
  clear c0 c3 f0 f3
  refine ⟨rfl, _, rfl, _, results_none rfl _ _ _, rfl, rfl, ?_, ?_, ?_⟩
  · exact blk_far (blk_set H0.out 0 _) (by show a ≠ a + 1; omega) _
  · exact blk_set (blk_far H1.out (by show a + 1 ≠ a; omega) _) 0 _
  · exact (hB.setCell (p := ⟨a, 0, none⟩) (Nat.le_refl a) _).setCell (p := ⟨a + 1, 0, none⟩) (Nat.le_succ a) _
def getSV (t : ByteArray) : Option S47 := (srtR [] t.data.toList).bind fun p => if p.2 = [] then some p.1 else none
def getSR (t : ByteArray) : Int × S47 := if 65536 < t.size then (3, ⟨[]⟩) else match getSV t with | none => (4, ⟨[]⟩) | some s => if schkV s = 0 then (0, s) else (6, ⟨[]⟩)
def GetSE (t : ByteArray) (w : World) (E : Ending) (w' : World) : Prop :=
  ∃ A c, E = .returned (.tuple #[.agg #[.slice A (getSR t).2.f0.length c], .int .i64 (getSR t).1]) ∧ Kd.R k47 47 w' w.heap.size (fun k => w.heap.size ≤ k) (.slice A (getSR t).2.f0.length c) (getSR t).2.f0 ∧ Below w.heap.size w w'
structure GS (w W : World) (x : Value) : Prop where
  hb : Below w.heap.size w W
  ha : W.heap[w.heap.size]? = some (.cells #[x] 47 (0, 0))
  he : W.heap[w.heap.size + 1]? = some (.cells #[.int .i64 0] 26 (0, 0))
theorem GS.start (w : World) : GS w ((w.alloc (.cells #[.slice none 0 0] 47)).alloc (.cells #[.int .i64 0] 26)) (.slice none 0 0) :=
  ⟨below_alloc (below_alloc (Below.refl _ _) _) _, blk_alloc (blk_new w _) _, blk_at2 w _ _⟩
theorem GS.below {w W W1 : World} {x : Value} (h : GS w W x) (hb : Below W.heap.size W W1) : GS w W1 x := ⟨below_then h.hb h.hb.size hb, blk_below h.ha hb, blk_below h.he hb⟩
theorem GS.call {w W W1 : World} {x : Value} {b : Nat} (h : GS w W x) (hk : KR b W W1) (hb : w.heap.size + 2 ≤ b) : GS w W1 x := ⟨Below.trans h.hb (Below.mono hk.lo (by omega)), hk.blk (by omega) h.ha, hk.blk (by omega) h.he⟩
theorem GS.cells {w W : World} {x : Value} (h : GS w W x) : (W.cell? ⟨w.heap.size, 0, none⟩ = some x ∧ W.frozen? ⟨w.heap.size, 0, none⟩ = false) ∧ W.cell? ⟨w.heap.size + 1, 0, none⟩ = some (.int .i64 0) ∧ W.frozen? ⟨w.heap.size + 1, 0, none⟩ = false :=
  ⟨⟨(blk_cell h.ha 0).trans rfl, blk_frozen h.ha 0⟩, (blk_cell h.he 0).trans rfl, blk_frozen h.he 0⟩
theorem GS.set0 {w W : World} {x : Value} (h : GS w W x) (u : Value) : GS w (W.setCell ⟨w.heap.size, 0, none⟩ u) u := ⟨h.hb.setCell (p := ⟨w.heap.size, 0, none⟩) (Nat.le_refl _) _, blk_set h.ha 0 u, blk_far h.he (by show w.heap.size + 1 ≠ w.heap.size; omega) _⟩
theorem run_mkfun3 (fn : Fn) (first cap : Array Value) (w : World) : (Instr.makeFunc fn first cap).run Tryz.prog w = .ok (.func fn first cap) w := rfl
theorem getSE_zero {t : ByteArray} {w W : World} {e : Int} (h : getSR t = (e, ⟨[]⟩)) (hb : Below w.heap.size w W) : GetSE t w (.returned (.tuple #[.agg #[.slice none 0 0], .int .i64 e])) W := by
  unfold GetSE
  rw [h]
  exact ⟨none, 0, rfl, Kd.R_nil _ _ _ _ _, hb⟩
theorem gets_panic {t : ByteArray} {w W : World} {x : Value} (h : getSR t = (4, ⟨[]⟩)) (hG : GS w W x) (tm : Array Value) (h2 : tm[2]? = some (.pointer (some ⟨w.heap.size, 0, none⟩))) (h3 : tm[3]? = some (.pointer (some ⟨w.heap.size + 1, 0, none⟩))) :
    bodyPostD Tryz.prog Tryz.f59 (GetSE t w) (Exit.panic [{ v := .iface 138 (.agg #[]), recovered := false }]) { tmps := tm, defers := [{ target := .fn (.func 102) #[.pointer (some ⟨w.heap.size, 0, none⟩), .pointer (some ⟨w.heap.size + 1, 0, none⟩)], args := #[] }] } W := by
  refine leaves_cons (f := 102) (args := #[.pointer (some ⟨w.heap.size, 0, none⟩), .pointer (some ⟨w.heap.size + 1, 0, none⟩)]) (by simp) (by simp [go_sem]) ?_
  refine (sbad_calls w.heap.size x _ W hG.ha hG.he).mono ?_
  rintro e u' w'' ⟨rfl, rfl, h0, h1, hb⟩
  have k0 : w''.cell? ⟨w.heap.size, 0, none⟩ = some (.slice none 0 0) := (blk_cell h0 0).trans rfl
  have k3 : w''.cell? ⟨w.heap.size + 1, 0, none⟩ = some (.int .i64 4) := (blk_cell h1 0).trans rfl
  have hE := getSE_zero (w := w) (W := w'') h (Below.trans hG.hb hb)
  simp [Leaves, settle, results, Tryz.results59, go_sem, h2, h3, k0, k3]
  exact hE
theorem gets_done {t : ByteArray} {w W : World} {A : Option Addr} {c : Nat} {s : S47} {e : Int} (h : getSR t = (e, s)) (hG : Below w.heap.size w W)
    (h0 : W.heap[w.heap.size]? = some (.cells #[.slice A s.f0.length c] 47 (0, 0))) (h1 : W.heap[w.heap.size + 1]? = some (.cells #[.int .i64 e] 26 (0, 0)))
    (hr : Kd.R k47 47 W w.heap.size (fun k => w.heap.size ≤ k) (.slice A s.f0.length c) s.f0)
    (tm : Array Value) (h2 : tm[2]? = some (.pointer (some ⟨w.heap.size, 0, none⟩))) (h3 : tm[3]? = some (.pointer (some ⟨w.heap.size + 1, 0, none⟩))) :
    bodyPostD Tryz.prog Tryz.f59 (GetSE t w) Exit.ret { tmps := tm, defers := [{ target := .fn (.func 102) #[.pointer (some ⟨w.heap.size, 0, none⟩), .pointer (some ⟨w.heap.size + 1, 0, none⟩)], args := #[] }] } W := by
  refine leaves_cons (f := 102) (args := #[.pointer (some ⟨w.heap.size, 0, none⟩), .pointer (some ⟨w.heap.size + 1, 0, none⟩)]) (by simp) (by simp [go_sem]) ?_
  refine (sidle_calls _ _ W).mono ?_
  rintro e' u' w'' ⟨rfl, rfl, rfl⟩
  have k0 : w''.cell? ⟨w.heap.size, 0, none⟩ = some (.slice A s.f0.length c) := (blk_cell h0 0).trans rfl
  have k3 : w''.cell? ⟨w.heap.size + 1, 0, none⟩ = some (.int .i64 e) := (blk_cell h1 0).trans rfl
  have hE : GetSE t w (.returned (.tuple #[.agg #[.slice A s.f0.length c], .int .i64 e])) w'' := by
    unfold GetSE
    rw [h]
    exact ⟨A, c, rfl, hr, hG⟩
  simp [Leaves, settle, results, Tryz.results59, go_sem, h2, h3, k0, k3]
  exact hE
theorem gets_ret0 {t : ByteArray} {w W : World} {e : Int} (h : getSR t = (e, ⟨[]⟩)) (hG : Below w.heap.size w W)
    (h0 : W.heap[w.heap.size]? = some (.cells #[.slice none 0 0] 47 (0, 0))) (h1 : W.heap[w.heap.size + 1]? = some (.cells #[.int .i64 e] 26 (0, 0)))
    (tm : Array Value) (h2 : tm[2]? = some (.pointer (some ⟨w.heap.size, 0, none⟩))) (h3 : tm[3]? = some (.pointer (some ⟨w.heap.size + 1, 0, none⟩))) :
    bodyPostD Tryz.prog Tryz.f59 (GetSE t w) Exit.ret { tmps := tm, defers := [] } W := by
  have k0 : W.cell? ⟨w.heap.size, 0, none⟩ = some (.slice none 0 0) := (blk_cell h0 0).trans rfl
  have k3 : W.cell? ⟨w.heap.size + 1, 0, none⟩ = some (.int .i64 e) := (blk_cell h1 0).trans rfl
  have hE := getSE_zero h hG
  simp [bodyPostD, Leaves, settle, results, Tryz.results59, go_sem, h2, h3, k0, k3]
  exact hE
theorem getSR_bad {t : ByteArray} (hs : t.size ≤ 65536) (h : getSV t = none) : getSR t = (4, ⟨[]⟩) := by unfold getSR; rw [if_neg (by omega), h]
set_option maxHeartbeats 8000000 in
set_option maxRecDepth 100000 in
theorem gets_calls (t : ByteArray) (w : World) : Calls Tryz.prog 59 #[.string t] w (GetSE t w) := by
  have hmf := run_mkfun3
  have HG := Aside0.mk (GS.start w)
  have HSZ1 := Aside0.mk (show ((w.alloc (.cells #[.slice none 0 0] 47)).alloc (.cells #[.int .i64 0] 26)).heap.size = w.heap.size + 2 from by simp)
  go_enter_defers Tryz.func59, Tryz.ntmps59
  go_upto_region 1 with (fail)
  generalize ((w.alloc (.cells #[.slice none 0 0] 47)).alloc (.cells #[.int .i64 0] 26)) = W1 at *
  obtain ⟨⟨c0, f0⟩, c1, f1⟩ := (HG.out).cells
  cases q1 : decide ((t.size : Int) > 65536) with
  | true =>
    have HR := Aside0.mk (show getSR t = (3, ⟨[]⟩) by unfold getSR; rw [if_pos (by have := of_decide_eq_true q1; omega)])
    have HQ := Aside0.mk ((HG.out).set0 (.slice none 0 0))
    go_wp2
    exact gets_ret0 HR.out ((HQ.out).hb.setCell (p := ⟨w.heap.size + 1, 0, none⟩) (Nat.le_succ _) _) (blk_far (HQ.out).ha (by show w.heap.size ≠ w.heap.size + 1; omega) _) (blk_set (HQ.out).he 0 _) _ rfl rfl
  | false =>
  have HSZ := Aside0.mk (show t.size ≤ 65536 by have := of_decide_eq_false q1; omega)
  clear c0 f0 c1 f1
  go_upto_region 5 with (fail)
  have HG2 := Aside0.mk ((HG.out).below (below_alloc (Below.refl W1.heap.size W1) (.cells #[.string t, .int .i64 0] 142)))
  have HRD := Aside0.mk (show RD W1.heap.size t t.data.toList (W1.alloc (.cells #[.string t, .int .i64 0] 142)) from by
    have e : t.size - t.data.toList.length = 0 := by rw [← Lib.size_eq]; omega
    refine ⟨?_, ?_⟩
    · rw [e]; exact blk_new W1 _
    · rw [e]; rfl)
  have HBB := Aside0.mk (show w.heap.size + 2 ≤ W1.heap.size from by have := HSZ1.out; omega)
  have HLT := Aside0.mk (show W1.heap.size < (W1.alloc (.cells #[.string t, .int .i64 0] 142)).heap.size from by simp)
  clear HG HSZ1
  generalize (W1.alloc (.cells #[.string t, .int .i64 0] 142)) = W2 at *
  generalize W1.heap.size = b at *
  have HS := Aside0.mk (sort_calls b t (by have := HSZ.out; omega) (t.data.toList.length + 1) t.data.toList W2 (Nat.lt_succ_self _) HRD.out)
  obtain ⟨⟨c0, f0⟩, c1, f1⟩ := (HG2.out).cells
  clear c0 f0 c1 f1
  go_wp2_with fail
  refine (HS.out).mono ?_
  rintro E w3 ⟨hk, hE⟩
  have HG3 := Aside0.mk ((HG2.out).call hk HBB.out)
  rcases hE with ⟨hn, rfl⟩ | ⟨s, r, v, hv, rfl, hR, hr⟩
  · have HN := Aside0.mk (show getSV t = none by unfold getSV; rw [hn]; rfl)
    clear hn hk HG2
    unfold pbadS
    go_wp2
    exact gets_panic (getSR_bad HSZ.out HN.out) HG3.out _ rfl rfl
  · obtain ⟨A, c, rfl⟩ := Kd.R_slice hR
    have HV := Aside0.mk hv
    have HRR := Aside0.mk (Kd.R_lower (base' := w.heap.size) (Kd.R_mono (ok' := fun k => w.heap.size + 2 ≤ k) hR (fun k hk2 => by have := HBB.out; have := HLT.out; omega)) (by have := HBB.out; have := HLT.out; omega))
    have HRD3 := Aside0.mk hr
    obtain ⟨⟨c0, f0⟩, c1, f1⟩ := (HG3.out).cells
    have HG4 := Aside0.mk ((HG3.out).set0 (.slice A s.f0.length c))
    have HR4 := Aside0.mk (Kd.R_far (p := ⟨w.heap.size, 0, none⟩) HRR.out (fun k hk2 => by show k ≠ w.heap.size; omega) (.slice A s.f0.length c))
    have HB4 := Aside0.mk (blk_far (HRD3.out).blk (p := ⟨w.heap.size, 0, none⟩) (by show b ≠ w.heap.size; have := HBB.out; omega) (.slice A s.f0.length c))
    have HLE := Aside0.mk (HRD3.out).le
    clear hk hv hR hr HG2 HRR HG3 HS
    go_upto_region 6 with (fail)
    generalize (w3.setCell ⟨w.heap.size, 0, none⟩ (.slice A s.f0.length c)) = w4 at *
    clear c0 f0 c1 f1
    obtain ⟨⟨c0, f0⟩, c1, f1⟩ := (HG4.out).cells
    have m0 : w4.cell? ⟨b, 0, none⟩ = some (.string t) := (blk_cell HB4.out 0).trans rfl
    have m1 : w4.cell? ⟨b, 1, none⟩ = some (.int .i64 ((t.size - r.length : Nat) : Int)) := (blk_cell HB4.out 1).trans rfl
    obtain ⟨p, hp⟩ : ∃ p : Nat, t.size - r.length = p := ⟨_, rfl⟩
    rw [hp] at m1
    have HP := Aside0.mk hp
    clear hp
    by_cases h9 : p = t.size
    · have hr0 : r = [] := by have := HP.out; have := HLE.out; exact List.eq_nil_of_length_eq_zero (by omega)
      have h99 : (p : Int) = (t.size : Int) := by rw [h9]
      have HGV := Aside0.mk (show getSV t = some s by unfold getSV; rw [HV.out, Option.bind_some, hr0, if_pos rfl])
      have HCK := Aside0.mk (scheck_calls s A c w4 (Kd.R_reads' HR4.out).2.2 (Kd.R_reads' HR4.out).2.1)
      clear hr0
      go_wp2_with fail
      refine (HCK.out).mono ?_
      rintro E w5 ⟨rfl, hb⟩
      have HG5 := Aside0.mk ((HG4.out).below hb)
      have HR5 := Aside0.mk (Kd.R_below HR4.out hb)
      clear hb HG4 HR4 HCK m0 m1 c0 f0 c1 f1
      obtain ⟨⟨c0, f0⟩, c1, f1⟩ := (HG5.out).cells
      by_cases hz : schkV s = 0
      · have HRS := Aside0.mk (show getSR t = (0, s) by unfold getSR; rw [if_neg (by have := HSZ.out; omega), HGV.out]; simp only; rw [if_pos hz])
        rw [hz]
        have HQ := Aside0.mk ((HG5.out).set0 (.slice A s.f0.length c))
        have HR6 := Aside0.mk (Kd.R_far (p := ⟨w.heap.size + 1, 0, none⟩) (Kd.R_far (p := ⟨w.heap.size, 0, none⟩) HR5.out (fun k hk2 => by show k ≠ w.heap.size; omega) (.slice A s.f0.length c)) (fun k hk2 => by show k ≠ w.heap.size + 1; omega) (.int .i64 0))
        clear hz
        go_wp2
        exact gets_done HRS.out ((HQ.out).hb.setCell (p := ⟨w.heap.size + 1, 0, none⟩) (Nat.le_succ _) _) (blk_far (HQ.out).ha (by show w.heap.size ≠ w.heap.size + 1; omega) _) (blk_set (HQ.out).he 0 _) (Kd.R_mono HR6.out (fun k hk2 => by omega)) _ rfl rfl
      · have h6 : schkV s = 6 := by unfold schkV at hz ⊢; split at hz <;> simp_all
        have HRS := Aside0.mk (show getSR t = (6, ⟨[]⟩) by unfold getSR; rw [if_neg (by have := HSZ.out; omega), HGV.out]; simp only; rw [if_neg hz])
        rw [h6]
        have HQ := Aside0.mk ((HG5.out).set0 (.slice none 0 0))
        clear hz h6
        go_wp2
        exact gets_done HRS.out ((HQ.out).hb.setCell (p := ⟨w.heap.size + 1, 0, none⟩) (Nat.le_succ _) _) (blk_far (HQ.out).ha (by show w.heap.size ≠ w.heap.size + 1; omega) _) (blk_set (HQ.out).he 0 _) (Kd.R_nil _ _ _ _ _) _ rfl rfl
    · have hr0 : ¬ r = [] := by intro e; have := HP.out; rw [e] at this; simp at this; omega
      have h99 : ¬ (p : Int) = (t.size : Int) := by omega
      have HRS := Aside0.mk (getSR_bad HSZ.out (show getSV t = none by unfold getSV; rw [HV.out, Option.bind_some, if_neg hr0]))
      have HQ := Aside0.mk ((HG4.out).set0 (.slice none 0 0))
      clear hr0
      go_wp2
      exact gets_done HRS.out ((HQ.out).hb.setCell (p := ⟨w.heap.size + 1, 0, none⟩) (Nat.le_succ _) _) (blk_far (HQ.out).ha (by show w.heap.size ≠ w.heap.size + 1; omega) _) (blk_set (HQ.out).he 0 _) (Kd.R_nil _ _ _ _ _) _ rfl rfl
end Go.Proofs.YthflpbgloeimfaaGreatDoor.H
namespace Go.Proofs.YthflpbgloeimfaaGreatDoor.H
open Go.RowKit Go.Proofs.YthflpbgloeimfaaGreatDoorW.PrintWords Go.Proofs.YthflpbgloeimfaaGreatDoorW.PrintLast Go.Proofs.YthflpbgloeimfaaGreatDoorW.PrintMore
open Go.Proofs.YthflpbgloeimfaaGreatDoor.Q (S47 k47 rd_T47 z47 at_T47 S50 k50 rd_T50 z50 at_T50 S52 k52 rd_T52 at_T52 z52 S71 k71 rd_T71 at_T71)
set_option linter.unusedVariables false
set_option linter.unusedSimpArgs false
theorem gidle_calls (p q : Addr) (w : World) :
    CallsD Tryz.prog 54 #[.pointer (some p), .pointer (some q)] .returning w fun e u' w' => e = .returned (.tuple #[]) ∧ u' = .returning ∧ w' = w := by
  refine callsD_of_wpS Tryz.func54 rfl fun c₀ cs hu => ?_
  apply wpS_seq
  apply wpS_region
  simp [wpOpsS, go_sem, recoverD, hu, Tryz.ntmps54, Exit.thenS]
  apply wpS_seq
  apply wpS_region
  simp [wpOpsS, go_sem, Exit.thenS]
  refine wpS_cond (t := false) (by simp [Act.eval, Array.replicate]) ?_
  simp only [Bool.false_eq_true, if_false]
  refine wpS_of_wp (wp_skip ?_)
  cases c₀
  simp_all [bodyPostS, results, Tryz.results54]
set_option maxHeartbeats 4000000 in
set_option maxRecDepth 100000 in
theorem gbad_calls (a : Nat) (x y e : Value) (w : World) (h0 : w.heap[a]? = some (.cells #[x, y] 25 (0, 0))) (h1 : w.heap[a + 1]? = some (.cells #[e] 26 (0, 0))) :
    CallsD Tryz.prog 54 #[.pointer (some ⟨a, 0, none⟩), .pointer (some ⟨a + 1, 0, none⟩)] (.panicking [{ v := .iface 85 (.agg #[]), recovered := false }]) w fun e u' w' =>
      e = .returned (.tuple #[]) ∧ u' = .panicking [{ v := .iface 85 (.agg #[]), recovered := true }] ∧ w'.heap[a]? = some (.cells #[.slice none 0 0, .slice none 0 0] 25 (0, 0)) ∧ w'.heap[a + 1]? = some (.cells #[.int .i64 4] 26 (0, 0)) ∧ Below a w w' := by
  refine callsD_of_wpS Tryz.func54 rfl fun c₀ cs hu => ?_
  apply wpS_seq
  apply wpS_region
  simp [wpOpsS, go_sem, recoverD, hu, Tryz.ntmps54, Exit.thenS]
  refine wpS_of_wp ?_
  rw [show (#[Value.pointer (some ⟨a, 0, none⟩), Value.pointer (some ⟨a + 1, 0, none⟩)] ++ ((Array.replicate 15 undef).setIfInBounds 3 (Value.iface 85 (Value.agg #[]))).setIfInBounds 0 (Value.iface 85 (Value.agg #[]))) = #[Value.pointer (some ⟨a, 0, none⟩), Value.pointer (some ⟨a + 1, 0, none⟩), Value.iface 85 (Value.agg #[]), undef, undef, Value.iface 85 (Value.agg #[]), undef, undef, undef, undef, undef, undef, undef, undef, undef, undef, undef] from rfl]
  have hta : ∀ W : World, (Instr.typeAssert (Value.iface 85 (Value.agg #[])) 20 85 true).run Tryz.prog W = .ok (.tuple #[.agg #[], .bool true]) W := fun W => by kernel_rfl
  have HB := Aside0.mk (below_alloc (Below.refl w.heap.size w) (.cells #[] 85))
  have HQ0 := Aside0.mk hu
  have ha : a < w.heap.size := (Array.getElem?_eq_some_iff.1 h0).1
  generalize hQ : bodyPostS Tryz.prog Tryz.f54 c₀ cs _ = QQ
  have HQ := Aside0.mk hQ
  clear hQ
  go_upto_region 5 with (fail)
  have H0 := Aside0.mk (blk_below h0 HB.out)
  have H1 := Aside0.mk (blk_below h1 HB.out)
  clear h0 h1
  generalize w.alloc (.cells #[] 85) = W2 at *
  have c0 : W2.cell? ⟨a, 0, none⟩ = some x := (blk_cell H0.out 0).trans rfl
  have c1 : W2.cell? ⟨a, 1, none⟩ = some y := (blk_cell H0.out 1).trans rfl
  have c3 : W2.cell? ⟨a + 1, 0, none⟩ = some e := (blk_cell H1.out 0).trans rfl
  have f0 : W2.frozen? ⟨a, 0, none⟩ = false := blk_frozen H0.out 0
  have f1 : W2.frozen? ⟨a, 1, none⟩ = false := blk_frozen H0.out 1
  have f3 : W2.frozen? ⟨a + 1, 0, none⟩ = false := blk_frozen H1.out 0
  go_wp2
  rw [← HQ.out]
  have hB := Below.mono HB.out (show a ≤ w.heap.size from Nat.le_of_lt ha)
  clear c0 c1 c3 f0 f1 f3
  refine ⟨rfl, _, rfl, _, results_none rfl _ _ _, rfl, rfl, ?_, ?_, ?_⟩
  · exact blk_far (blk_set (blk_set H0.out 0 _) 1 _) (by show a ≠ a + 1; omega) _
  · exact blk_set (blk_far (blk_far H1.out (by show a + 1 ≠ a; omega) _) (by show a + 1 ≠ a; omega) _) 0 _
  · exact ((hB.setCell (p := ⟨a, 0, none⟩) (Nat.le_refl a) _).setCell (p := ⟨a, 1, none⟩) (Nat.le_refl a) _).setCell (p := ⟨a + 1, 0, none⟩) (Nat.le_succ a) _
structure GSt where
  sy : List S71
  fs : List S52
  bo : List ByteArray
  large : Bool
def nmE (l : List ByteArray) : Ents := (l.zipIdx).foldl (fun es p => if mget p.1 es = none then es ++ [(p.1, (p.2 : Int))] else es) []
def pSym : List UInt8 := [115, 121, 109, 98, 111, 108, 32]
def pFun : List UInt8 := [102, 117, 110, 32]
def lnStep (g : GSt) (s : ByteArray) : Option GSt :=
  let l := s.data.toList
  if Lib.hasPrefix l pSym = true ∧ g.fs.length = 0 then (symR (Lib.trimPrefix l pSym)).map fun y => { g with sy := g.sy ++ [y] }
  else
    let a := Lib.cut (Lib.trimPrefix l pFun) [32, 58, 32]
    let b := Lib.cut a.2.1 [32, 61, 32]
    if Lib.hasPrefix l pFun = true ∧ a.2.2 = true ∧ b.2.2 = true ∧ nameB ⟨a.1.toArray⟩ = true then
      (if (getSR ⟨b.1.toArray⟩).1 = 4 then none
       else some { sy := g.sy, fs := g.fs ++ [⟨⟨a.1.toArray⟩, (getSR ⟨b.1.toArray⟩).2, ⟨0, 0, []⟩⟩], bo := g.bo ++ [⟨b.2.1.toArray⟩], large := g.large || decide ((getSR ⟨b.1.toArray⟩).1 ≠ 0) })
    else none
def lnAll : GSt → List ByteArray → Option GSt
  | g, [] => some g
  | g, s :: r => (lnStep g s).bind fun g2 => lnAll g2 r
end Go.Proofs.YthflpbgloeimfaaGreatDoor.H
namespace Go.Proofs.YthflpbgloeimfaaGreatDoor.H
open Go.RowKit Go.Proofs.YthflpbgloeimfaaGreatDoorW.PrintWords Go.Proofs.YthflpbgloeimfaaGreatDoorW.PrintLast Go.Proofs.YthflpbgloeimfaaGreatDoorW.PrintMore
open Go.Proofs.YthflpbgloeimfaaGreatDoor.Q (S47 k47 rd_T47 z47 at_T47 S50 k50 rd_T50 z50 at_T50 S52 k52 rd_T52 at_T52 z52 S71 k71 rd_T71 at_T71)
set_option linter.unusedVariables false
set_option linter.unusedSimpArgs false
theorem nmE_snoc (l : List ByteArray) (x : ByteArray) : nmE (l ++ [x]) = (if mget x (nmE l) = none then nmE l ++ [(x, (l.length : Int))] else nmE l) := by
  unfold nmE
  rw [List.zipIdx_append, List.foldl_append]
  simp
def chunks (s : ByteArray) (c : UInt8) : List ByteArray := Lib.splitB ⟨#[c]⟩ 0 (Lib.countB s ⟨#[c]⟩) s
def boAll (e1 e2 : Ents) : List S52 → List ByteArray → Option (List S52)
  | f :: r, b :: t => (tmR e1 e2 b.data.toList).bind fun p => if p.2 = [] then (boAll e1 e2 r t).map (⟨f.f0, f.f1, p.1⟩ :: ·) else none
  | _, _ => some []
def getV3 (t : ByteArray) : Option (List S71 × List S52 × Bool) :=
  let L := chunks t 10
  if L.getD (L.length - 1) ByteArray.empty = ByteArray.empty then
    (lnAll ⟨[], [], [], false⟩ (L.take (L.length - 1))).bind fun g => (boAll (nmE (g.sy.map (·.f0))) (nmE (g.fs.map (·.f0))) g.fs g.bo).map fun fs => (g.sy, fs, g.large)
  else none
def getR3 (t : ByteArray) : Int × List S71 × List S52 :=
  if 65536 < t.size then (3, [], []) else match getV3 t with
    | none => (4, [], [])
    | some (sy, fs, large) => if large = true ∨ schV sy fs ≠ 0 then (7, [], []) else (0, sy, fs)
end Go.Proofs.YthflpbgloeimfaaGreatDoor.H
namespace Go.Proofs.YthflpbgloeimfaaGreatDoor.H
open Go.RowKit Go.Proofs.YthflpbgloeimfaaGreatDoorW.PrintWords Go.Proofs.YthflpbgloeimfaaGreatDoorW.PrintLast Go.Proofs.YthflpbgloeimfaaGreatDoorW.PrintMore
open Go.Proofs.YthflpbgloeimfaaGreatDoor.Q (S47 k47 rd_T47 z47 at_T47 S50 k50 rd_T50 z50 at_T50 S52 k52 rd_T52 at_T52 z52 S71 k71 rd_T71 at_T71)
set_option linter.unusedVariables false
set_option linter.unusedSimpArgs false
def GetE3 (t : ByteArray) (w : World) (E : Ending) (w' : World) : Prop :=
  ∃ A1 c1 A2 c2, E = .returned (.tuple #[.agg #[.slice A1 (getR3 t).2.1.length c1, .slice A2 (getR3 t).2.2.length c2], .int .i64 (getR3 t).1]) ∧ Kd.C k71 w' A1 (getR3 t).2.1.length (getR3 t).2.1 ∧ (getR3 t).2.1.length ≤ c1 ∧ Kd.C k52 w' A2 (getR3 t).2.2.length (getR3 t).2.2 ∧ (getR3 t).2.2.length ≤ c2 ∧ Below w.heap.size w w'
structure GH3 (w W : World) (x y : Value) : Prop where
  hb : Below w.heap.size w W
  ha : W.heap[w.heap.size]? = some (.cells #[x, y] 25 (0, 0))
  he : W.heap[w.heap.size + 1]? = some (.cells #[.int .i64 0] 26 (0, 0))
theorem GH3.start (w : World) : GH3 w ((w.alloc (.cells #[.slice none 0 0, .slice none 0 0] 25)).alloc (.cells #[.int .i64 0] 26)) (.slice none 0 0) (.slice none 0 0) :=
  ⟨below_alloc (below_alloc (Below.refl _ _) _) _, blk_alloc (blk_new w _) _, blk_at2 w _ _⟩
theorem GH3.below {w W W1 : World} {x y : Value} (h : GH3 w W x y) (hb : Below W.heap.size W W1) : GH3 w W1 x y := ⟨below_then h.hb h.hb.size hb, blk_below h.ha hb, blk_below h.he hb⟩
theorem GH3.grown {w W W1 : World} {x y : Value} (h : GH3 w W x y) {row : Option Nat} (hb : Below w.heap.size w W1) (hg : W.grownBy W1 row) (hne : ∀ k, row = some k → w.heap.size + 2 ≤ k) : GH3 w W1 x y :=
  ⟨hb, blk_grown h.ha hg (fun e => by have := hne _ e.symm; omega), blk_grown h.he hg (fun e => by have := hne _ e.symm; omega)⟩
theorem GH3.call {w W W1 : World} {x y : Value} {b : Nat} (h : GH3 w W x y) (hk : KR b W W1) (hb : w.heap.size + 2 ≤ b) : GH3 w W1 x y := ⟨Below.trans h.hb (Below.mono hk.lo (by omega)), hk.blk (by omega) h.ha, hk.blk (by omega) h.he⟩
theorem GH3.cells {w W : World} {x y : Value} (h : GH3 w W x y) : W.cell? ⟨w.heap.size, 0, none⟩ = some x ∧ W.cell? ⟨w.heap.size, 1, none⟩ = some y ∧ W.cell? ⟨w.heap.size + 1, 0, none⟩ = some (.int .i64 0) :=
  ⟨(blk_cell h.ha 0).trans rfl, (blk_cell h.ha 1).trans rfl, (blk_cell h.he 0).trans rfl⟩
theorem GH3.frozen {w W : World} {x y : Value} (h : GH3 w W x y) : W.frozen? ⟨w.heap.size, 0, none⟩ = false ∧ W.frozen? ⟨w.heap.size, 1, none⟩ = false ∧ W.frozen? ⟨w.heap.size + 1, 0, none⟩ = false :=
  ⟨blk_frozen h.ha 0, blk_frozen h.ha 1, blk_frozen h.he 0⟩
theorem GH3.set0 {w W : World} {x y : Value} (h : GH3 w W x y) (u : Value) : GH3 w (W.setCell ⟨w.heap.size, 0, none⟩ u) u y := ⟨h.hb.setCell (p := ⟨w.heap.size, 0, none⟩) (Nat.le_refl _) _, blk_set h.ha 0 u, blk_far h.he (by show w.heap.size + 1 ≠ w.heap.size; omega) _⟩
theorem GH3.set1 {w W : World} {x y : Value} (h : GH3 w W x y) (u : Value) : GH3 w (W.setCell ⟨w.heap.size, 1, none⟩ u) x u := ⟨h.hb.setCell (p := ⟨w.heap.size, 1, none⟩) (Nat.le_refl _) _, blk_set h.ha 1 u, blk_far h.he (by show w.heap.size + 1 ≠ w.heap.size; omega) _⟩
theorem getE3_zero {t : ByteArray} {w W : World} {e : Int} (h : getR3 t = (e, [], [])) (hb : Below w.heap.size w W) : GetE3 t w (.returned (.tuple #[.agg #[.slice none 0 0, .slice none 0 0], .int .i64 e])) W := by
  unfold GetE3
  rw [h]
  exact ⟨none, 0, none, 0, rfl, ⟨rfl, by simp, fun h => absurd h (by simp)⟩, Nat.le_refl _, ⟨rfl, by simp, fun h => absurd h (by simp)⟩, Nat.le_refl _, hb⟩
theorem get3_panic {t : ByteArray} {w W : World} {x y : Value} (h : getR3 t = (4, [], [])) (hG : GH3 w W x y) (tm : Array Value) (h2 : tm[2]? = some (.pointer (some ⟨w.heap.size, 0, none⟩))) (h3 : tm[3]? = some (.pointer (some ⟨w.heap.size + 1, 0, none⟩))) :
    bodyPostD Tryz.prog Tryz.f19 (GetE3 t w) (Exit.panic [{ v := .iface 85 (.agg #[]), recovered := false }]) { tmps := tm, defers := [{ target := .fn (.func 54) #[.pointer (some ⟨w.heap.size, 0, none⟩), .pointer (some ⟨w.heap.size + 1, 0, none⟩)], args := #[] }] } W := by
  refine leaves_cons (f := 54) (args := #[.pointer (some ⟨w.heap.size, 0, none⟩), .pointer (some ⟨w.heap.size + 1, 0, none⟩)]) (by simp) (by simp [go_sem]) ?_
  refine (gbad_calls w.heap.size x y _ W hG.ha hG.he).mono ?_
  rintro e u' w'' ⟨rfl, rfl, h0, h1, hb⟩
  have k0 : w''.cell? ⟨w.heap.size, 0, none⟩ = some (.slice none 0 0) := (blk_cell h0 0).trans rfl
  have k1 : w''.cell? ⟨w.heap.size, 1, none⟩ = some (.slice none 0 0) := (blk_cell h0 1).trans rfl
  have k3 : w''.cell? ⟨w.heap.size + 1, 0, none⟩ = some (.int .i64 4) := (blk_cell h1 0).trans rfl
  have hE := getE3_zero (w := w) (W := w'') h (Below.trans hG.hb hb)
  simp [Leaves, settle, results, Tryz.results19, go_sem, h2, h3, k0, k1, k3]
  exact hE
theorem get3_done {t : ByteArray} {w W : World} {A1 A2 : Option Addr} {c1 c2 : Nat} {sy : List S71} {fs : List S52} {e : Int} (h : getR3 t = (e, sy, fs)) (hG : Below w.heap.size w W)
    (h0 : W.heap[w.heap.size]? = some (.cells #[.slice A1 sy.length c1, .slice A2 fs.length c2] 25 (0, 0))) (h1 : W.heap[w.heap.size + 1]? = some (.cells #[.int .i64 e] 26 (0, 0)))
    (hr : Kd.C k71 W A1 sy.length sy) (hrc : sy.length ≤ c1) (hM : Kd.C k52 W A2 fs.length fs) (hMc : fs.length ≤ c2)
    (tm : Array Value) (h2 : tm[2]? = some (.pointer (some ⟨w.heap.size, 0, none⟩))) (h3 : tm[3]? = some (.pointer (some ⟨w.heap.size + 1, 0, none⟩))) :
    bodyPostD Tryz.prog Tryz.f19 (GetE3 t w) Exit.ret { tmps := tm, defers := [{ target := .fn (.func 54) #[.pointer (some ⟨w.heap.size, 0, none⟩), .pointer (some ⟨w.heap.size + 1, 0, none⟩)], args := #[] }] } W := by
  refine leaves_cons (f := 54) (args := #[.pointer (some ⟨w.heap.size, 0, none⟩), .pointer (some ⟨w.heap.size + 1, 0, none⟩)]) (by simp) (by simp [go_sem]) ?_
  refine (gidle_calls _ _ W).mono ?_
  rintro e' u' w'' ⟨rfl, rfl, rfl⟩
  have k0 : w''.cell? ⟨w.heap.size, 0, none⟩ = some (.slice A1 sy.length c1) := (blk_cell h0 0).trans rfl
  have k1 : w''.cell? ⟨w.heap.size, 1, none⟩ = some (.slice A2 fs.length c2) := (blk_cell h0 1).trans rfl
  have k3 : w''.cell? ⟨w.heap.size + 1, 0, none⟩ = some (.int .i64 e) := (blk_cell h1 0).trans rfl
  have hE : GetE3 t w (.returned (.tuple #[.agg #[.slice A1 sy.length c1, .slice A2 fs.length c2], .int .i64 e])) w'' := by
    unfold GetE3
    rw [h]
    exact ⟨A1, _, A2, _, rfl, hr, hrc, hM, hMc, hG⟩
  simp [Leaves, settle, results, Tryz.results19, go_sem, h2, h3, k0, k1, k3]
  exact hE
theorem get3_ret0 {t : ByteArray} {w W : World} {e : Int} (h : getR3 t = (e, [], [])) (hG : Below w.heap.size w W)
    (h0 : W.heap[w.heap.size]? = some (.cells #[.slice none 0 0, .slice none 0 0] 25 (0, 0))) (h1 : W.heap[w.heap.size + 1]? = some (.cells #[.int .i64 e] 26 (0, 0)))
    (tm : Array Value) (h2 : tm[2]? = some (.pointer (some ⟨w.heap.size, 0, none⟩))) (h3 : tm[3]? = some (.pointer (some ⟨w.heap.size + 1, 0, none⟩))) :
    bodyPostD Tryz.prog Tryz.f19 (GetE3 t w) Exit.ret { tmps := tm, defers := [] } W := by
  have k0 : W.cell? ⟨w.heap.size, 0, none⟩ = some (.slice none 0 0) := (blk_cell h0 0).trans rfl
  have k1 : W.cell? ⟨w.heap.size, 1, none⟩ = some (.slice none 0 0) := (blk_cell h0 1).trans rfl
  have k3 : W.cell? ⟨w.heap.size + 1, 0, none⟩ = some (.int .i64 e) := (blk_cell h1 0).trans rfl
  have hE := getE3_zero h hG
  simp [bodyPostD, Leaves, settle, results, Tryz.results19, go_sem, h2, h3, k0, k1, k3]
  exact hE
theorem getR3_bad {t : ByteArray} (hs : t.size ≤ 65536) (h : getV3 t = none) : getR3 t = (4, [], []) := by unfold getR3; rw [if_neg (by omega), h]
end Go.Proofs.YthflpbgloeimfaaGreatDoor.H
namespace Go.Proofs.YthflpbgloeimfaaGreatDoor.H
open Go.RowKit Go.Proofs.YthflpbgloeimfaaGreatDoorW.PrintWords Go.Proofs.YthflpbgloeimfaaGreatDoorW.PrintLast Go.Proofs.YthflpbgloeimfaaGreatDoorW.PrintMore
open Go.Proofs.YthflpbgloeimfaaGreatDoor.Q (S47 k47 rd_T47 z47 at_T47 S50 k50 rd_T50 z50 at_T50 S52 k52 rd_T52 at_T52 z52 S71 k71 rd_T71 at_T71)
set_option linter.unusedVariables false
set_option linter.unusedSimpArgs false
theorem chunks_len (s : ByteArray) (c : UInt8) : (Lib.splitB ⟨#[c]⟩ 0 (Lib.countB s ⟨#[c]⟩) s).length = Lib.countB s ⟨#[c]⟩ + 1 := Lib.splitB_all _ (show 1 ≤ (ByteArray.mk #[c]).size from Nat.le_refl 1) _ _ _ rfl
theorem chunks_short (s : ByteArray) (c : UInt8) : (chunks s c).length ≤ s.size + 1 := by
  have h : (chunks s c).length = Lib.countB s ⟨#[c]⟩ + 1 := chunks_len s c
  have := Lib.countB_le ⟨#[c]⟩ (Nat.le_refl 1) s.size s (Nat.le_refl _)
  omega
theorem chunks_pos (s : ByteArray) (c : UInt8) : 1 ≤ (chunks s c).length := by
  have h : (chunks s c).length = Lib.countB s ⟨#[c]⟩ + 1 := chunks_len s c
  omega
theorem split_calls (s : ByteArray) (c : UInt8) (w : World) (hs : s.size ≤ 70000) (hm : MX w) :
    Calls Tryz.prog 55 #[.string s, .string ⟨#[c]⟩] w fun E w' => E = .returned (.slice (some ⟨w.heap.size, 0, none⟩) (chunks s c).length (chunks s c).length) ∧ w' = w.alloc (.cells ((chunks s c).map Value.string).toArray 9) := by
  obtain ⟨m, hm⟩ := hm
  have h := Tryz.strings_Split s ⟨#[c]⟩ m w (by omega) hm (Nat.le_refl 1)
  rw [← chunks_len s c] at h
  exact h
theorem strs_cell {W : World} {b : Nat} {L : List ByteArray} {x : Nat × Nat} (h : W.heap[b]? = some (.cells (L.map Value.string).toArray 9 x)) {i : Nat} (hi : i < L.length) : W.cell? ⟨b, i, none⟩ = some (.string (L.getD i ByteArray.empty)) := by
  rw [Lib.cell_of_heap h]
  simp [List.getD_eq_getElem?_getD, hi]
theorem splitB_size (sep : ByteArray) : ∀ (k : Nat) (s : ByteArray), ∀ x ∈ Lib.splitB sep 0 k s, x.size ≤ s.size
  | 0, s, x, hx => by rw [Lib.splitB_zero, List.mem_singleton] at hx; rw [hx]; exact Nat.le_refl _
  | k + 1, s, x, hx => by
    unfold Lib.splitB at hx
    split at hx
    · rw [List.mem_singleton] at hx; rw [hx]; exact Nat.le_refl _
    · rcases List.mem_cons.1 hx with rfl | hx
      · rw [ByteArray.size_extract]; omega
      · have := splitB_size sep k _ x hx
        rw [ByteArray.size_extract] at this; omega
theorem chunk_size (s : ByteArray) (c : UInt8) (i : Nat) : ((chunks s c).getD i ByteArray.empty).size ≤ s.size := by
  by_cases hi : i < (chunks s c).length
  · rw [List.getD_eq_getElem?_getD, List.getElem?_eq_getElem hi]
    exact splitB_size _ _ _ _ (List.getElem_mem hi)
  · rw [List.getD_eq_getElem?_getD, List.getElem?_eq_none (by omega)]
    exact Nat.zero_le _
end Go.Proofs.YthflpbgloeimfaaGreatDoor.H
namespace Go.Proofs.YthflpbgloeimfaaGreatDoor.H
open Go.RowKit Go.Proofs.YthflpbgloeimfaaGreatDoorW.PrintWords Go.Proofs.YthflpbgloeimfaaGreatDoorW.PrintLast Go.Proofs.YthflpbgloeimfaaGreatDoorW.PrintMore
open Go.Proofs.YthflpbgloeimfaaGreatDoor.Q (S47 k47 rd_T47 z47 at_T47 S50 k50 rd_T50 z50 at_T50 S52 k52 rd_T52 at_T52 z52 S71 k71 rd_T71 at_T71)
set_option linter.unusedVariables false
structure FL (w wi : World) (L : List ByteArray) (bl B1 B2 b : Nat) (tx : List UInt8) (sy : List S71) (fs : List S52) (bo : List ByteArray) (e1 e2 : Ents) (A1 : Option Addr) (c1 : Nat) (A2 : Option Addr) (c2 : Nat) (A3 : Option Addr) (c3 : Nat) : Prop where
  g : GH3 w wi (.slice A1 sy.length c1) (.slice A2 fs.length c2)
  l : wi.heap[bl]? = some (.cells (L.map Value.string).toArray 9 (0, 0))
  rt : RT b tx (.map (some B1)) (.map (some B2)) wi
  m1 : MapIs wi B1 Value.string ki sdom e1
  m2 : MapIs wi B2 Value.string ki sdom e2
  r1 : Kd.R k71 71 wi w.heap.size (fun k => b < k) (.slice A1 sy.length c1) sy
  r2 : Kd.R k52 52 wi w.heap.size (fun k => b < k) (.slice A2 fs.length c2) fs
  r3 : Kd.R Kd.string 9 wi w.heap.size (fun k => b < k) (.slice A3 bo.length c3) bo
  n : w.heap.size + 2 ≤ bl ∧ bl < B1 ∧ B1 < B2 ∧ B2 < b
section
variable {w wi w1 : World} {L : List ByteArray} {bl B1 B2 b : Nat} {tx : List UInt8} {sy : List S71} {fs : List S52} {bo : List ByteArray} {e1 e2 : Ents} {A1 A2 A3 : Option Addr} {c1 c2 c3 : Nat}
theorem FL.below (h : FL w wi L bl B1 B2 b tx sy fs bo e1 e2 A1 c1 A2 c2 A3 c3) (hb : Below wi.heap.size wi w1) : FL w w1 L bl B1 B2 b tx sy fs bo e1 e2 A1 c1 A2 c2 A3 c3 :=
  ⟨h.g.below hb, blk_below h.l hb, h.rt.keep hb, h.m1.below hb, h.m2.below hb, Kd.R_below h.r1 hb, Kd.R_below h.r2 hb, Kd.R_below h.r3 hb, h.n⟩
theorem FL.hb (h : FL w wi L bl B1 B2 b tx sy fs bo e1 e2 A1 c1 A2 c2 A3 c3) : Below w.heap.size w wi := h.g.hb
theorem FL.lt (h : FL w wi L bl B1 B2 b tx sy fs bo e1 e2 A1 c1 A2 c2 A3 c3) : b < wi.heap.size := blk_lt h.rt.blk
theorem FL.put1 {e3 : Ents} (h : FL w wi L bl B1 B2 b tx sy fs bo e1 e2 A1 c1 A2 c2 A3 c3) (hm : MapIs w1 B1 Value.string ki sdom e3) (hg : wi.grownBy w1 (some B1)) : FL w w1 L bl B1 B2 b tx sy fs bo e3 e2 A1 c1 A2 c2 A3 c3 := by
  have hn := h.n
  have ne : ∀ k, b < k → some k ≠ some B1 := fun k hk e => by have := Option.some.inj e; omega
  refine ⟨h.g.grown (pw_below_grown h.g.hb _ h.g.hb.size hg (fun k hk => by cases hk; omega)) hg (fun k hk => by cases hk; omega), blk_grown h.l hg (fun e => by have := Option.some.inj e; omega), ⟨blk_grown h.rt.blk hg (fun e => by have := Option.some.inj e; omega)⟩, hm, h.m2.grown hg (fun e => by have := Option.some.inj e; omega), Kd.R_grown h.r1 hg ne, Kd.R_grown h.r2 hg ne, Kd.R_grown h.r3 hg ne, hn⟩
theorem FL.put2 {e3 : Ents} (h : FL w wi L bl B1 B2 b tx sy fs bo e1 e2 A1 c1 A2 c2 A3 c3) (hm : MapIs w1 B2 Value.string ki sdom e3) (hg : wi.grownBy w1 (some B2)) : FL w w1 L bl B1 B2 b tx sy fs bo e1 e3 A1 c1 A2 c2 A3 c3 := by
  have hn := h.n
  have ne : ∀ k, b < k → some k ≠ some B2 := fun k hk e => by have := Option.some.inj e; omega
  refine ⟨h.g.grown (pw_below_grown h.g.hb _ h.g.hb.size hg (fun k hk => by cases hk; omega)) hg (fun k hk => by cases hk; omega), blk_grown h.l hg (fun e => by have := Option.some.inj e; omega), ⟨blk_grown h.rt.blk hg (fun e => by have := Option.some.inj e; omega)⟩, h.m1.grown hg (fun e => by have := Option.some.inj e; omega), hm, Kd.R_grown h.r1 hg ne, Kd.R_grown h.r2 hg ne, Kd.R_grown h.r3 hg ne, hn⟩
theorem FL.push1 {y : S71} {A : Option Addr} {c : Nat} (h : FL w wi L bl B1 B2 b tx sy fs bo e1 e2 A1 c1 A2 c2 A3 c3) (ho : Kd.R k71 71 w1 w.heap.size (fun k => b < k) (.slice A (sy ++ [y]).length c) (sy ++ [y])) (hb : Below w.heap.size w w1) (hg : wi.grownBy w1 (Value.slice A1 sy.length c1).ownBlock) :
    FL w (w1.setCell ⟨w.heap.size, 0, none⟩ (.slice A (sy.length + 1) c)) L bl B1 B2 b tx (sy ++ [y]) fs bo e1 e2 A c A2 c2 A3 c3 := by
  rw [show sy.length + 1 = (sy ++ [y]).length from by simp]
  have hn := h.n
  have hr : ∀ k, (Value.slice A1 sy.length c1).ownBlock = some k → b < k := h.r1.1
  have ne : ∀ k, b < k → k ≠ w.heap.size := fun k hk => by omega
  have nb : ∀ g, g ≤ b → some g ≠ (Value.slice A1 sy.length c1).ownBlock := fun g hg e => by have := hr _ e.symm; omega
  refine ⟨(h.g.grown hb hg (fun k hk => by have := hr k hk; omega)).set0 _, blk_far (blk_grown h.l hg (nb _ (by omega))) (by show bl ≠ w.heap.size; omega) _, (RT.mk (blk_grown h.rt.blk hg (nb _ (Nat.le_refl _)))).far (by omega) _ _, (h.m1.grown hg (nb _ (by omega))).far (by show B1 ≠ w.heap.size; omega) _, (h.m2.grown hg (nb _ (by omega))).far (by show B2 ≠ w.heap.size; omega) _, Kd.R_far ho ne _, Kd.R_far (Kd.R_over h.r2 h.r1 (by decide) hg) ne _, Kd.R_far (Kd.R_over h.r3 h.r1 (by decide) hg) ne _, hn⟩
theorem FL.push2 {y : S52} {A : Option Addr} {c : Nat} (h : FL w wi L bl B1 B2 b tx sy fs bo e1 e2 A1 c1 A2 c2 A3 c3) (ho : Kd.R k52 52 w1 w.heap.size (fun k => b < k) (.slice A (fs ++ [y]).length c) (fs ++ [y])) (hb : Below w.heap.size w w1) (hg : wi.grownBy w1 (Value.slice A2 fs.length c2).ownBlock) :
    FL w (w1.setCell ⟨w.heap.size, 1, none⟩ (.slice A (fs.length + 1) c)) L bl B1 B2 b tx sy (fs ++ [y]) bo e1 e2 A1 c1 A c A3 c3 := by
  rw [show fs.length + 1 = (fs ++ [y]).length from by simp]
  have hn := h.n
  have hr : ∀ k, (Value.slice A2 fs.length c2).ownBlock = some k → b < k := h.r2.1
  have ne : ∀ k, b < k → k ≠ w.heap.size := fun k hk => by omega
  have nb : ∀ g, g ≤ b → some g ≠ (Value.slice A2 fs.length c2).ownBlock := fun g hg e => by have := hr _ e.symm; omega
  refine ⟨(h.g.grown hb hg (fun k hk => by have := hr k hk; omega)).set1 _, blk_far (blk_grown h.l hg (nb _ (by omega))) (by show bl ≠ w.heap.size; omega) _, (RT.mk (blk_grown h.rt.blk hg (nb _ (Nat.le_refl _)))).far (by omega) _ _, (h.m1.grown hg (nb _ (by omega))).far (by show B1 ≠ w.heap.size; omega) _, (h.m2.grown hg (nb _ (by omega))).far (by show B2 ≠ w.heap.size; omega) _, Kd.R_far (Kd.R_over h.r1 h.r2 (by decide) hg) ne _, Kd.R_far ho ne _, Kd.R_far (Kd.R_over h.r3 h.r2 (by decide) hg) ne _, hn⟩
theorem FL.push3 {y : ByteArray} {A : Option Addr} {c : Nat} (h : FL w wi L bl B1 B2 b tx sy fs bo e1 e2 A1 c1 A2 c2 A3 c3) (ho : Kd.R Kd.string 9 w1 w.heap.size (fun k => b < k) (.slice A (bo ++ [y]).length c) (bo ++ [y])) (hb : Below w.heap.size w w1) (hg : wi.grownBy w1 (Value.slice A3 bo.length c3).ownBlock) :
    FL w w1 L bl B1 B2 b tx sy fs (bo ++ [y]) e1 e2 A1 c1 A2 c2 A c := by
  have hn := h.n
  have hr : ∀ k, (Value.slice A3 bo.length c3).ownBlock = some k → b < k := h.r3.1
  have nb : ∀ g, g ≤ b → some g ≠ (Value.slice A3 bo.length c3).ownBlock := fun g hg e => by have := hr _ e.symm; omega
  refine ⟨h.g.grown hb hg (fun k hk => by have := hr k hk; omega), blk_grown h.l hg (nb _ (by omega)), ⟨blk_grown h.rt.blk hg (nb _ (Nat.le_refl _))⟩, h.m1.grown hg (nb _ (by omega)), h.m2.grown hg (nb _ (by omega)), Kd.R_over h.r1 h.r3 (by decide) hg, Kd.R_over h.r2 h.r3 (by decide) hg, ho, hn⟩
end
theorem lnAll_snoc (g : GSt) (l : List ByteArray) (s : ByteArray) : lnAll g (l ++ [s]) = (lnAll g l).bind fun g2 => lnStep g2 s := by
  induction l generalizing g with
  | nil =>
    show (lnStep g s).bind (fun g2 => lnAll g2 []) = lnStep g s
    cases lnStep g s <;> rfl
  | cons a r ih =>
    rw [List.cons_append, lnAll, lnAll]
    cases lnStep g a with
    | none => rfl
    | some g2 => simp only [Option.bind_some]; exact ih g2
theorem lnAll_none {g : GSt} {l : List ByteArray} {n i : Nat} (hi : i < n) (hn : n ≤ l.length) (h : lnAll g (l.take (i + 1)) = none) : lnAll g (l.take n) = none := by
  have e : ∀ (a b : List ByteArray) (g : GSt), lnAll g a = none → lnAll g (a ++ b) = none := by
    intro a b
    induction a with
    | nil => intro g h; cases h
    | cons x r ih =>
      intro g h
      rw [List.cons_append, lnAll]
      rw [lnAll] at h
      cases q : lnStep g x with
      | none => rfl
      | some g2 => rw [q] at h; simp only [Option.bind_some] at h ⊢; exact ih g2 h
  have e2 := (List.take_append_drop (i + 1) (l.take n)).symm
  rw [List.take_take, show min (i + 1) n = i + 1 by omega] at e2
  rw [e2]
  exact e _ _ _ h
theorem getV3_end {t : ByteArray} (h : (chunks t 10).getD ((chunks t 10).length - 1) ByteArray.empty ≠ ByteArray.empty) : getV3 t = none := by unfold getV3; simp only; rw [if_neg h]
theorem getV3_lines {t : ByteArray} (h : lnAll ⟨[], [], [], false⟩ ((chunks t 10).take ((chunks t 10).length - 1)) = none) : getV3 t = none := by
  unfold getV3
  simp only
  split
  · rw [h]; rfl
  · rfl
theorem getV3_main {t : ByteArray} (h0 : (chunks t 10).getD ((chunks t 10).length - 1) ByteArray.empty = ByteArray.empty) {g : GSt} (h : lnAll ⟨[], [], [], false⟩ ((chunks t 10).take ((chunks t 10).length - 1)) = some g) :
    getV3 t = (boAll (nmE (g.sy.map (·.f0))) (nmE (g.fs.map (·.f0))) g.fs g.bo).map fun fs => (g.sy, fs, g.large) := by
  unfold getV3
  simp only
  rw [if_pos h0, h]; rfl
theorem nmE_put {x : ByteArray} {l : List ByteArray} (h : mget x (nmE l) = none) : mput x (l.length : Int) (nmE l) = nmE (l ++ [x]) := by
  rw [nmE_snoc, if_pos h]
  exact mput_new (mget_none.1 h)
theorem nmE_keep {x : ByteArray} {l : List ByteArray} {v : Int} (h : mget x (nmE l) = some v) : nmE l = nmE (l ++ [x]) := by
  rw [nmE_snoc, if_neg (by rw [h]; simp)]
end Go.Proofs.YthflpbgloeimfaaGreatDoor.H
namespace Go.Proofs.YthflpbgloeimfaaGreatDoor.H
open Go.RowKit Go.Proofs.YthflpbgloeimfaaGreatDoorW.PrintWords Go.Proofs.YthflpbgloeimfaaGreatDoorW.PrintLast Go.Proofs.YthflpbgloeimfaaGreatDoorW.PrintMore
open Go.Proofs.YthflpbgloeimfaaGreatDoor.Q (S47 k47 rd_T47 z47 at_T47 S50 k50 rd_T50 z50 at_T50 S52 k52 rd_T52 at_T52 z52 S71 k71 rd_T71 at_T71)
set_option linter.unusedVariables false
set_option linter.unusedSimpArgs false
theorem GH3.far {w W : World} {x y : Value} (h : GH3 w W x y) {b : Nat} (hb : w.heap.size + 2 ≤ b) (i : Nat) (u : Value) : GH3 w (W.setCell ⟨b, i, none⟩ u) x y :=
  ⟨h.hb.setCell (p := ⟨b, i, none⟩) (by show w.heap.size ≤ b; omega) _, blk_far h.ha (by show w.heap.size ≠ b; omega) _, blk_far h.he (by show w.heap.size + 1 ≠ b; omega) _⟩
section
variable {w wi w1 : World} {L : List ByteArray} {bl B1 B2 b : Nat} {tx : List UInt8} {sy : List S71} {fs fs2 : List S52} {bo : List ByteArray} {e1 e2 : Ents} {A1 A2 A3 : Option Addr} {c1 c2 c3 : Nat}
theorem FL.setT (h : FL w wi L bl B1 B2 b tx sy fs bo e1 e2 A1 c1 A2 c2 A3 c3) (s : ByteArray) : FL w (wi.setCell ⟨b, 0, none⟩ (.string s)) L bl B1 B2 b s.data.toList sy fs bo e1 e2 A1 c1 A2 c2 A3 c3 := by
  have hn := h.n
  have ne : ∀ k, b < k → k ≠ b := fun k hk => by omega
  exact ⟨h.g.far (by omega) _ _, blk_far h.l (by show bl ≠ b; omega) _, h.rt.set s, h.m1.far (by show B1 ≠ b; omega) _, h.m2.far (by show B2 ≠ b; omega) _, Kd.R_far h.r1 ne _, Kd.R_far h.r2 ne _, Kd.R_far h.r3 ne _, hn⟩
theorem FL.call {l2 : List UInt8} (h : FL w wi L bl B1 B2 b tx sy fs bo e1 e2 A1 c1 A2 c2 A3 c3) (hk : KR b wi w1) (hr : RT b l2 (.map (some B1)) (.map (some B2)) w1) : FL w w1 L bl B1 B2 b l2 sy fs bo e1 e2 A1 c1 A2 c2 A3 c3 := by
  have hn := h.n
  have ne : ∀ k, b < k → k ≠ b := fun k hk => by omega
  exact ⟨h.g.call hk (by omega), hk.blk (by omega) h.l, hr, h.m1.kept (hk.keep.2 B1 h.m1.lt (by omega) (by simp)), h.m2.kept (hk.keep.2 B2 h.m2.lt (by omega) (by simp)), hk.rr h.r1 ne, hk.rr h.r2 ne, hk.rr h.r3 ne, hn⟩
theorem FL.rm (h : FL w wi L bl B1 B2 b tx sy fs bo e1 e2 A1 c1 A2 c2 A3 c3) : RM b tx B1 B2 e1 e2 wi := by
  have hn := h.n
  exact ⟨h.rt, h.m1, h.m2, by omega, by omega⟩
theorem FL.stored (h : FL w wi L bl B1 B2 b tx sy fs bo e1 e2 A1 c1 A2 c2 A3 c3) (hl : fs2.length = fs.length) (ho : Kd.R k52 52 w1 w.heap.size (fun k => b < k) (.slice A2 fs.length c2) fs2) (hg : wi.grownBy w1 (Value.slice A2 fs.length c2).ownBlock) :
    FL w w1 L bl B1 B2 b tx sy fs2 bo e1 e2 A1 c1 A2 c2 A3 c3 := by
  have hn := h.n
  have hr : ∀ k, (Value.slice A2 fs.length c2).ownBlock = some k → b < k := h.r2.1
  have nb : ∀ g, g ≤ b → some g ≠ (Value.slice A2 fs.length c2).ownBlock := fun g hg e => by have := hr _ e.symm; omega
  have hb : Below w.heap.size w w1 := pw_below_grown h.g.hb _ h.g.hb.size hg (fun k hk => by have := hr k hk; omega)
  have hgg := h.g.grown hb hg (fun k hk => by have := hr k hk; omega)
  rw [← hl] at hgg ho
  exact ⟨hgg, blk_grown h.l hg (nb _ (by omega)), ⟨blk_grown h.rt.blk hg (nb _ (Nat.le_refl _))⟩, h.m1.grown hg (nb _ (by omega)), h.m2.grown hg (nb _ (by omega)), Kd.R_over h.r1 h.r2 (by decide) hg, ho, Kd.R_over h.r3 h.r2 (by decide) hg, hn⟩
theorem FL.fin (h : FL w wi L bl B1 B2 b tx sy fs bo e1 e2 A1 c1 A2 c2 A3 c3) (v0 v1 e : Value) :
    (Kd.C k71 (((wi.setCell ⟨w.heap.size, 0, none⟩ v0).setCell ⟨w.heap.size, 1, none⟩ v1).setCell ⟨w.heap.size + 1, 0, none⟩ e) A1 sy.length sy ∧ sy.length ≤ c1 ∧ Kd.C k52 (((wi.setCell ⟨w.heap.size, 0, none⟩ v0).setCell ⟨w.heap.size, 1, none⟩ v1).setCell ⟨w.heap.size + 1, 0, none⟩ e) A2 fs.length fs ∧ fs.length ≤ c2) ∧
    Below w.heap.size w (((wi.setCell ⟨w.heap.size, 0, none⟩ v0).setCell ⟨w.heap.size, 1, none⟩ v1).setCell ⟨w.heap.size + 1, 0, none⟩ e) ∧ (((wi.setCell ⟨w.heap.size, 0, none⟩ v0).setCell ⟨w.heap.size, 1, none⟩ v1).setCell ⟨w.heap.size + 1, 0, none⟩ e).heap[w.heap.size]? = some (.cells #[v0, v1] 25 (0, 0)) ∧
    (((wi.setCell ⟨w.heap.size, 0, none⟩ v0).setCell ⟨w.heap.size, 1, none⟩ v1).setCell ⟨w.heap.size + 1, 0, none⟩ e).heap[w.heap.size + 1]? = some (.cells #[e] 26 (0, 0)) := by
  have hn := h.n
  have ne : ∀ k, b < k → k ≠ w.heap.size := fun k hk => by omega
  have ne1 : ∀ k, b < k → k ≠ w.heap.size + 1 := fun k hk => by omega
  have q := (h.g.set0 v0).set1 v1
  have r1 := Kd.R_reads' (Kd.R_far (p := ⟨w.heap.size + 1, 0, none⟩) (Kd.R_far (p := ⟨w.heap.size, 1, none⟩) (Kd.R_far (p := ⟨w.heap.size, 0, none⟩) h.r1 ne v0) ne v1) ne1 e)
  have r2 := Kd.R_reads' (Kd.R_far (p := ⟨w.heap.size + 1, 0, none⟩) (Kd.R_far (p := ⟨w.heap.size, 1, none⟩) (Kd.R_far (p := ⟨w.heap.size, 0, none⟩) h.r2 ne v0) ne v1) ne1 e)
  exact ⟨⟨r1.2.2, r1.2.1, r2.2.2, r2.2.1⟩, q.hb.setCell (p := ⟨w.heap.size + 1, 0, none⟩) (Nat.le_succ _) _, blk_far q.ha (by show w.heap.size ≠ w.heap.size + 1; omega) _, blk_set q.he 0 _⟩
theorem FL.gone (h : FL w wi L bl B1 B2 b tx sy fs bo e1 e2 A1 c1 A2 c2 A3 c3) (hk : KR b wi w1) : GH3 w w1 (.slice A1 sy.length c1) (.slice A2 fs.length c2) := by
  have hn := h.n
  exact h.g.call hk (by omega)
end
theorem row_body {W : World} {base g n cap : Nat} {ok okp : Nat → Prop} {xs : List S52} (HO : Kd.R k52 52 W base ok (.slice (some ⟨g, 0, none⟩) n cap) xs) {j : Nat} (hi : j < n) (tt : S50) {v : Value} (hv : k50.R 50 W base okp v tt.f2) (hokp : ∀ k, okp k → ok k ∧ k ≠ g) :
    Kd.R k52 52 (W.setCells g (j * 5 + 2) [.int .i64 tt.f0, .int .i64 tt.f1, v]) base ok (.slice (some ⟨g, 0, none⟩) n cap) (xs.set j ⟨(xs.getD j z52).f0, (xs.getD j z52).f1, tt⟩) ∧ W.grownBy (W.setCells g (j * 5 + 2) [.int .i64 tt.f0, .int .i64 tt.f1, v]) (some g) := by
  obtain ⟨c, hcl, hM, hcc, _⟩ := Kd.R_elem HO z52 (j : Int) (by omega) (by omega)
  rw [Int.toNat_natCast] at hM hcc
  obtain ⟨v1, v4, rfl, g1, g4⟩ := Q.k52_openM hM
  have h := Kd.R_seg (okp := fun k => ok k ∧ k ≠ g) HO (j : Int) (by omega) (by omega) hcl (j := 2) (seg := [.int .i64 tt.f0, .int .i64 tt.f1, v]) (by rw [Int.toNat_natCast]; exact hcc) (by show 2 + 3 ≤ 5; decide) (x' := ⟨(xs.getD j z52).f0, (xs.getD j z52).f1, tt⟩)
    (Q.k52_mkM W base _ ⟨(xs.getD j z52).f0, (xs.getD j z52).f1, tt⟩ g1 (Kd.R_mono hv hokp)) (fun k hk => hk)
  rw [Int.toNat_natCast] at h
  exact h
theorem body_cells {W : World} {base g n cap : Nat} {ok : Nat → Prop} {xs : List S52} (HO : Kd.R k52 52 W base ok (.slice (some ⟨g, 0, none⟩) n cap) xs) {j : Nat} (hi : j < n) :
    (∃ x y z, W.cell? ⟨g, j * 5 + 2, none⟩ = some x ∧ W.cell? ⟨g, j * 5 + 2 + 1, none⟩ = some y ∧ W.cell? ⟨g, j * 5 + 2 + 2, none⟩ = some z) ∧ W.frozen? ⟨g, j * 5 + 2, none⟩ = false ∧ W.frozen? ⟨g, j * 5 + 2 + 1, none⟩ = false ∧ W.frozen? ⟨g, j * 5 + 2 + 2, none⟩ = false := by
  obtain ⟨c, hcl, hM, hcc, hf⟩ := Kd.R_elem HO z52 (j : Int) (by omega) (by omega)
  rw [Int.toNat_natCast] at hM hcc hf
  obtain ⟨v1, v4, rfl, g1, g4⟩ := Q.k52_openM hM
  exact ⟨⟨_, _, _, hcc 2 _ rfl, hcc 3 _ rfl, hcc 4 _ rfl⟩, hf 2, hf 3, hf 4⟩
theorem lnStep_bo {g g2 : GSt} {s : ByteArray} (h : lnStep g s = some g2) : ∀ x ∈ g2.bo, x ∈ g.bo ∨ x.size ≤ s.size := by
  unfold lnStep at h
  simp only at h
  split at h
  · obtain ⟨y, _, rfl⟩ := Option.map_eq_some_iff.1 h
    exact fun x hx => .inl hx
  · split at h
    · split at h
      · cases h
      · obtain rfl := Option.some.inj h
        intro x hx
        rcases List.mem_append.1 hx with hx | hx
        · exact .inl hx
        · obtain rfl := List.mem_singleton.1 hx
          right
          show (Lib.cut (Lib.cut (Lib.trimPrefix s.data.toList pFun) [32, 58, 32]).2.1 [32, 61, 32]).2.1.toArray.size ≤ s.size
          rw [List.size_toArray, Lib.size_eq]
          have i1 := (cut_size (Lib.trimPrefix s.data.toList pFun) [32, 58, 32]).2
          have i2 := (cut_size (Lib.cut (Lib.trimPrefix s.data.toList pFun) [32, 58, 32]).2.1 [32, 61, 32]).2
          have := trim_len s.data.toList pFun
          omega
    · cases h
theorem lnAll_bo {m : Nat} : ∀ (l : List ByteArray) (g g2 : GSt), (∀ s ∈ l, s.size ≤ m) → (∀ x ∈ g.bo, x.size ≤ m) → lnAll g l = some g2 → ∀ x ∈ g2.bo, x.size ≤ m := by
  intro l
  induction l with
  | nil => intro g g2 _ hg h; obtain rfl := Option.some.inj h; exact hg
  | cons s r ih =>
    intro g g2 hl hg h
    rw [lnAll] at h
    obtain ⟨g1, h1, h⟩ := Option.bind_eq_some_iff.1 h
    refine ih g1 g2 (fun x hx => hl x (List.mem_cons_of_mem _ hx)) (fun x hx => ?_) h
    rcases lnStep_bo h1 x hx with hx | hx
    · exact hg x hx
    · exact Nat.le_trans hx (hl s (List.mem_cons_self ..))
theorem boAll_next {e1 e2 : Ents} {fs : List S52} {bo : List ByteArray} {j : Nat} (h : j < bo.length) (h2 : bo.length = fs.length) {dn : List S52} (hd : dn.length = j) :
    boAll e1 e2 (fs.drop j) (bo.drop j) = (tmR e1 e2 (bo.getD j ByteArray.empty).data.toList).bind fun p => if p.2 = [] then (boAll e1 e2 (fs.drop (j + 1)) (bo.drop (j + 1))).map (⟨(fs.getD j z52).f0, (fs.getD j z52).f1, p.1⟩ :: ·) else none := by
  have h3 : j < fs.length := by omega
  rw [List.drop_eq_getElem_cons h, List.drop_eq_getElem_cons h3, boAll]
  simp [List.getD_eq_getElem?_getD, h, h3]
theorem boAll_end {e1 e2 : Ents} {fs : List S52} {bo : List ByteArray} (h2 : bo.length = fs.length) : boAll e1 e2 (fs.drop bo.length) (bo.drop bo.length) = some [] := by
  rw [List.drop_eq_nil_of_le (by omega), List.drop_eq_nil_of_le (Nat.le_refl _)]; rfl
theorem set_next {fs dn : List S52} {j : Nat} (hd : dn.length = j) (h : j < fs.length) (x : S52) : (dn ++ fs.drop j).set j x = (dn ++ [x]) ++ fs.drop (j + 1) := by
  subst hd
  rw [List.set_append_right _ _ (Nat.le_refl _), Nat.sub_self, List.drop_eq_getElem_cons h, List.set_cons_zero, List.append_assoc]
  rfl
theorem get_next {fs dn : List S52} {j : Nat} (hd : dn.length = j) (h : j < fs.length) : (dn ++ fs.drop j).getD j z52 = fs.getD j z52 := by
  subst hd
  rw [List.getD_eq_getElem?_getD, List.getD_eq_getElem?_getD, List.getElem?_append_right (Nat.le_refl _), Nat.sub_self, List.getElem?_drop, Nat.add_zero]
end Go.Proofs.YthflpbgloeimfaaGreatDoor.H
namespace Go.Proofs.YthflpbgloeimfaaGreatDoor.H
open Go.RowKit Go.Proofs.YthflpbgloeimfaaGreatDoorW.PrintWords Go.Proofs.YthflpbgloeimfaaGreatDoorW.PrintLast Go.Proofs.YthflpbgloeimfaaGreatDoorW.PrintMore
open Go.Proofs.YthflpbgloeimfaaGreatDoor.Q (S47 k47 rd_T47 z47 at_T47 S50 k50 rd_T50 z50 at_T50 S52 k52 rd_T52 at_T52 z52 S71 k71 rd_T71 at_T71)
set_option linter.unusedVariables false
theorem symR_size {l : List UInt8} {y : S71} (h : symR l = some y) : y.f0.size ≤ l.length := by
  unfold symR at h
  split at h
  · obtain rfl := Option.some.inj h
    have := (cut_size l [32]).1
    show (Lib.cut l [32]).1.toArray.size ≤ l.length
    rw [List.size_toArray]; exact this
  · cases h
theorem line_cases (l : List UInt8) (n : Nat) : (Lib.hasPrefix l pSym = true ∧ n = 0) ∨ (Lib.hasPrefix l pSym = true ∧ ¬ n = 0) ∨ Lib.hasPrefix l pSym = false := by
  cases Lib.hasPrefix l pSym with
  | true => by_cases h : n = 0 <;> simp [h]
  | false => simp
def lnFun (g : GSt) (s : ByteArray) : Option GSt :=
  if Lib.hasPrefix s.data.toList pFun = true ∧ (Lib.cut (Lib.trimPrefix s.data.toList pFun) [32, 58, 32]).2.2 = true ∧ (Lib.cut (Lib.cut (Lib.trimPrefix s.data.toList pFun) [32, 58, 32]).2.1 [32, 61, 32]).2.2 = true ∧ nameB ⟨(Lib.cut (Lib.trimPrefix s.data.toList pFun) [32, 58, 32]).1.toArray⟩ = true then
    (if (getSR ⟨(Lib.cut (Lib.cut (Lib.trimPrefix s.data.toList pFun) [32, 58, 32]).2.1 [32, 61, 32]).1.toArray⟩).1 = 4 then none
     else some { sy := g.sy, fs := g.fs ++ [⟨⟨(Lib.cut (Lib.trimPrefix s.data.toList pFun) [32, 58, 32]).1.toArray⟩, (getSR ⟨(Lib.cut (Lib.cut (Lib.trimPrefix s.data.toList pFun) [32, 58, 32]).2.1 [32, 61, 32]).1.toArray⟩).2, ⟨0, 0, []⟩⟩], bo := g.bo ++ [⟨(Lib.cut (Lib.cut (Lib.trimPrefix s.data.toList pFun) [32, 58, 32]).2.1 [32, 61, 32]).2.1.toArray⟩], large := g.large || decide ((getSR ⟨(Lib.cut (Lib.cut (Lib.trimPrefix s.data.toList pFun) [32, 58, 32]).2.1 [32, 61, 32]).1.toArray⟩).1 ≠ 0) })
  else none
theorem lnStep_fun0 {g : GSt} {s : ByteArray} (h : ¬ (Lib.hasPrefix s.data.toList pSym = true ∧ g.fs.length = 0)) : lnStep g s = lnFun g s := by
  unfold lnStep lnFun
  simp only
  rw [if_neg h]
theorem info9 : (Tryz.prog.info? 9).map (fun i => (i.zero, i.size, i.bytes)) = some (some (.string ⟨#[]⟩), 1, 16) := by kernel_rfl
theorem bytes_empty {s : ByteArray} (h : s.toList.isEmpty = true) : s = ByteArray.empty := by
  rw [Lib.toList_data] at h
  rcases s with ⟨⟨l⟩⟩
  have : l = [] := List.isEmpty_iff.1 h
  rw [this]; rfl
set_option maxHeartbeats 16000000 in
set_option maxRecDepth 100000 in
theorem get3_calls (t : ByteArray) (w : World) (hm : MX w) : Calls Tryz.prog 19 #[.string t] w (GetE3 t w) := by
  have hmf := run_mkfun3
  have hmm := @run_makeMap Tryz.prog
  have HM := Aside0.mk hm
  have HG := Aside0.mk (GH3.start w)
  have HSZ1 := Aside0.mk (show ((w.alloc (.cells #[.slice none 0 0, .slice none 0 0] 25)).alloc (.cells #[.int .i64 0] 26)).heap.size = w.heap.size + 2 from by simp)
  clear hm
  go_enter_defers Tryz.func19, Tryz.ntmps19
  go_upto_region 1 with (fail)
  generalize ((w.alloc (.cells #[.slice none 0 0, .slice none 0 0] 25)).alloc (.cells #[.int .i64 0] 26)) = W1 at *
  obtain ⟨c0, c1, c3⟩ := (HG.out).cells
  obtain ⟨f0, f1, f3⟩ := (HG.out).frozen
  cases q1 : decide ((t.size : Int) > 65536) with
  | true =>
    have HR := Aside0.mk (show getR3 t = (3, [], []) by unfold getR3; rw [if_pos (by have := of_decide_eq_true q1; omega)])
    have HQ := Aside0.mk (((HG.out).set0 (.slice none 0 0)).set1 (.slice none 0 0))
    go_wp2
    exact get3_ret0 HR.out ((HQ.out).hb.setCell (p := ⟨w.heap.size + 1, 0, none⟩) (Nat.le_succ _) _) (blk_far (HQ.out).ha (by show w.heap.size ≠ w.heap.size + 1; omega) _) (blk_set (HQ.out).he 0 _) _ rfl rfl
  | false =>
  have HSZ := Aside0.mk (show t.size ≤ 65536 by have := of_decide_eq_false q1; omega)
  have HSP := Aside0.mk (split_calls t 10 W1 (by have := HSZ.out; omega) ((HM.out).below (HG.out).hb))
  clear c0 c1 c3 f0 f1 f3
  go_wp2_with fail
  refine (HSP.out).mono ?_
  rintro E w2 ⟨rfl, hw⟩
  clear q1
  have hb := below_alloc (Below.refl W1.heap.size W1) (.cells ((chunks t 10).map Value.string).toArray 9)
  have hbn := blk_new W1 (.cells ((chunks t 10).map Value.string).toArray 9)
  rw [← hw] at hb hbn
  have HG2 := Aside0.mk ((HG.out).below hb)
  have HLB := Aside0.mk hbn
  have HLS := Aside0.mk (show (chunks t 10).length ≤ 65537 from by have := chunks_short t 10; have := HSZ.out; omega)
  have HV1 := Aside0.mk (fun h => getV3_end (t := t) h)
  have HV2 := Aside0.mk (fun h => getV3_lines (t := t) h)
  have HV3 := Aside0.mk (fun h0 g h => getV3_main (t := t) h0 (g := g) h)
  have HCS := Aside0.mk (fun i => chunk_size t 10 i)
  have HBL := Aside0.mk (show w.heap.size + 2 ≤ W1.heap.size from by have := HSZ1.out; omega)
  have hpos := chunks_pos t 10
  clear hw hb hbn HG HSP HSZ1
  generalize chunks t 10 = L at *
  generalize W1.heap.size = bl at *
  have hk := strs_cell HLB.out (show L.length - 1 < L.length by omega)
  generalize hle : L.getD (L.length - 1) ByteArray.empty = le at *
  have HLEE := Aside0.mk hle
  clear hle
  have hz2 : IntKind.i64.wrap ((L.length : Int) - 1) = (L.length : Int) - 1 := by have := HLS.out; simp [IntKind.wrap, IntKind.bits, IntKind.signed]; omega
  cases q3 : le.toList.isEmpty with
  | false =>
    have HN := Aside0.mk (HV1.out (fun e => by rw [e, Lib.toList_data] at q3; revert q3; decide))
    go_wp2
    exact get3_panic (getR3_bad HSZ.out HN.out) HG2.out _ rfl rfl
  | true =>
  have HLE := Aside0.mk (show le = ByteArray.empty from bytes_empty q3)
  go_upto_region 10 with (fail)
  clear hk hz2 q3
  obtain ⟨n, hn⟩ : ∃ n, L.length = n + 1 := ⟨L.length - 1, by omega⟩
  have hlt3 := blk_lt HLB.out
  have HF := Aside0.mk (show FL w (((w2.alloc (.map #[] 0)).alloc (.map #[] 0)).alloc (.cells #[.string ⟨#[]⟩, .map (some w2.heap.size), .map (some (w2.heap.size + 1))] 92)) L bl w2.heap.size (w2.heap.size + 1) (w2.heap.size + 1 + 1) [] [] [] [] [] [] none 0 none 0 none 0 from by
    have b1 := below_alloc (Below.refl w2.heap.size w2) (.map #[] 0)
    have b2 := below_alloc (Below.refl (w2.alloc (.map #[] 0)).heap.size (w2.alloc (.map #[] 0))) (.map #[] 0)
    have b3 := below_alloc (Below.refl ((w2.alloc (.map #[] 0)).alloc (.map #[] 0)).heap.size ((w2.alloc (.map #[] 0)).alloc (.map #[] 0))) (.cells #[.string ⟨#[]⟩, .map (some w2.heap.size), .map (some (w2.heap.size + 1))] 92)
    have hb := below_then (below_then b1 b1.size b2) (below_then b1 b1.size b2).size b3
    have m1 := ((mapIs_new w2 Value.string ki sdom).below b2).below b3
    have m2 := (mapIs_new (w2.alloc (.map #[] 0)) Value.string ki sdom).below b3
    have e1 : (w2.alloc (.map #[] 0)).heap.size = w2.heap.size + 1 := by simp
    have e2 : ((w2.alloc (.map #[] 0)).alloc (.map #[] 0)).heap.size = w2.heap.size + 1 + 1 := by simp
    have hx := blk_new ((w2.alloc (.map #[] 0)).alloc (.map #[] 0)) (.cells #[.string ⟨#[]⟩, .map (some w2.heap.size), .map (some (w2.heap.size + 1))] 92)
    rw [e2] at hx
    rw [e1] at m2
    exact ⟨(HG2.out).below hb, blk_below HLB.out hb, ⟨hx⟩, m1, m2, Kd.R_nil _ _ _ _ _, Kd.R_nil _ _ _ _ _, Kd.R_nil _ _ _ _ _, by have := HBL.out; omega⟩)
  have HLT := Aside0.mk hlt3
  clear hlt3 HG2 HLB HBL hmm
  generalize (((w2.alloc (.map #[] 0)).alloc (.map #[] 0)).alloc (.cells #[.string ⟨#[]⟩, .map (some w2.heap.size), .map (some (w2.heap.size + 1))] 92)) = w3 at *
  generalize w2.heap.size = B at *
  rw [hn] at HV2 HV3 HLEE HLS
  rw [show n + 1 - 1 = n from rfl] at HV2 HV3 HLEE
  have HLL := Aside0.mk hn
  rw [hn, show ((n + 1 : Nat) : Int) = (n : Int) + 1 from by omega, show (n : Int) + 1 - 1 = (n : Int) by omega, show n + 1 - 1 = n from rfl]
  have hz1 : wrap64 (n : Int) = (n : Int) := wr_id (by omega) (by have := HLS.out; omega)
  have hz2 : (0 : Int) ≤ (n : Int) ∧ (n : Int) ≤ (n : Int) + 1 := by omega
  have hz3 : max (n : Int) 0 = (n : Int) := by omega
  clear hn hpos
  go_wp2
  clear hz1 hz2 hz3
  go_loopg [6, 7, 55] n (fun gg v6 v7 v55 wi => ∃ (i : Nat) (G : GSt) (A1 : Option Addr) (c1 : Nat) (A2 : Option Addr) (c2 : Nat) (A3 : Option Addr) (c3 : Nat), i ≤ n ∧ n - i ≤ gg ∧ v6 = .slice A3 G.bo.length c3 ∧ v7 = .bool G.large ∧ v55 = .int .i64 i ∧ Aside0 (lnAll ⟨[], [], [], false⟩ (L.take i) = some G) ∧ Aside0 (G.sy.length + G.fs.length = i ∧ G.bo.length = G.fs.length) ∧ Aside0 (FL w wi L bl B (B + 1) (B + 1 + 1) [] G.sy G.fs G.bo (nmE (G.sy.map (·.f0))) (nmE (G.fs.map (·.f0))) A1 c1 A2 c2 A3 c3))
  case atStart => exact ⟨0, ⟨[], [], [], false⟩, none, 0, none, 0, none, 0, Nat.zero_le _, Nat.le_refl _, rfl, rfl, rfl, ⟨rfl⟩, ⟨rfl, rfl⟩, HF⟩
  case round =>
    clear HF
    obtain ⟨i, G, A1, c1, A2, c2, A3, c3, hi, hgg, rfl, rfl, rfl, HG, HN, HF⟩ := hrel
    by_cases hlt : i < n
    · have hltz : (i : Int) < (n : Int) := by omega
      have HIN := Aside0.mk hlt
      have hk := strs_cell (HF.out).l (show i < L.length by have := HLL.out; omega)
      have HSB := Aside0.mk (HCS.out i)
      have HTK := Aside0.mk (show L.take (i + 1) = L.take i ++ [L.getD i ByteArray.empty] by
        have hi2 : i < L.length := by have := HLL.out; omega
        rw [List.take_succ_eq_append_getElem hi2, List.getD_eq_getElem?_getD, List.getElem?_eq_getElem hi2]; rfl)
      generalize L.getD i ByteArray.empty = s at *
      have HSTEP := Aside0.mk (show lnAll ⟨[], [], [], false⟩ (L.take (i + 1)) = lnStep G s by rw [HTK.out, lnAll_snoc, HG.out]; rfl)
      have HBAD := Aside0.mk (fun (h : lnStep G s = none) => getR3_bad HSZ.out (HV2.out (lnAll_none HIN.out (by have := HLL.out; omega) (HSTEP.out.trans h))))
      have HKZ := Aside0.mk (show wrap64 ((i : Int) + 1) = ((i + 1 : Nat) : Int) by rw [wr_id (by omega) (by have := HLS.out; omega)]; rfl)
      clear HTK
      have HP1 := Aside0.mk (fun (W1 : World) => Tryz.strings_CutPrefix s ⟨#[115, 121, 109, 98, 111, 108, 32]⟩ W1)
      rw [show (ByteArray.mk #[115, 121, 109, 98, 111, 108, 32]).data.toList = pSym from rfl] at HP1
      go_wp2_with fail
      refine (HP1.out _).mono ?_
      rintro E w4 ⟨rfl, hw⟩
      subst hw
      have g1 := (HF.out).g.cells.2.1
      rcases line_cases s.data.toList G.fs.length with ⟨q1, hfz⟩ | ⟨q1, hfz⟩ | q1
      · · have hfzz : (G.fs.length : Int) = 0 := by omega
          have hsz : (ByteArray.mk (Lib.trimPrefix s.data.toList pSym).toArray).size ≤ 70000 := by
            show (Lib.trimPrefix s.data.toList pSym).toArray.size ≤ 70000
            rw [List.size_toArray]
            have := trim_len s.data.toList pSym
            rw [← Lib.size_eq] at this
            have := HSB.out; have := HSZ.out
            omega
          have HSY := Aside0.mk (symbol_calls ⟨(Lib.trimPrefix s.data.toList pSym).toArray⟩ w4 hsz ((HM.out).below (HF.out).hb))
          rw [show (ByteArray.mk (Lib.trimPrefix s.data.toList pSym).toArray).data.toList = Lib.trimPrefix s.data.toList pSym from rfl] at HSY
          have HLN := Aside0.mk (show lnStep G s = (symR (Lib.trimPrefix s.data.toList pSym)).map fun y => { G with sy := G.sy ++ [y] } by unfold lnStep; simp only; rw [if_pos ⟨q1, hfz⟩])
          have HFZ := Aside0.mk hfz
          have HLX := Aside0.mk (show (Lib.trimPrefix s.data.toList pSym).length ≤ s.size from by have := trim_len s.data.toList pSym; rw [← Lib.size_eq] at this; exact this)
          clear hsz
          generalize Lib.trimPrefix s.data.toList pSym = lx at *
          go_wp2_with fail
          refine (HSY.out).mono ?_
          rintro E w5 ⟨hb, hE⟩
          have HF5 := Aside0.mk ((HF.out).below hb)
          clear hb HSY HF hk g1
          rcases hE with ⟨hn, rfl⟩ | ⟨y, hy, rfl⟩
          · have HX := Aside0.mk (HBAD.out (by rw [HLN.out, hn]; rfl))
            clear hn q1 hfz hfzz
            unfold pwrong
            go_wp2
            exact get3_panic HX.out (HF5.out).g _ rfl rfl
          · have HGO := Aside0.mk (show lnStep G s = some { G with sy := G.sy ++ [y] } by rw [HLN.out, hy]; rfl)
            have HYZ := Aside0.mk (show y.f0.size ≤ 70000 by have := symR_size hy; have := HSB.out; have := HSZ.out; have := HLX.out; omega)
            have HSN := Aside0.mk (show (G.sy ++ [y]).map (·.f0) = G.sy.map (·.f0) ++ [y.f0] by simp)
            have HSL := Aside0.mk (show G.sy.length ≤ 70000 from by have := (HN.out).1; have := HLS.out; have := HIN.out; omega)
            clear hy q1 hfz hfzz HLN HBAD
            go_upto_region 16 with (fail)
            have HX6 := Aside0.mk (blk_new w5 (.cells #[.string y.f0, .int .i64 y.f1] 71))
            have HF6 := Aside0.mk ((HF5.out).below (below_alloc (Below.refl w5.heap.size w5) (.cells #[.string y.f0, .int .i64 y.f1] 71)))
            have hb6 := (HF5.out).lt
            clear HF5
            generalize (w5.alloc (.cells #[.string y.f0, .int .i64 y.f1] 71)) = w6 at *
            have HBY := Aside0.mk (show B + 1 + 1 < w5.heap.size ∧ w.heap.size + 2 ≤ B from ⟨hb6, by have := (HF6.out).n; omega⟩)
            clear hb6
            generalize w5.heap.size = by_ at *
            have hq1 := (HF6.out).rt.cells.2.1
            have x0 : w6.cell? ⟨by_, 0, none⟩ = some (.string y.f0) := (blk_cell HX6.out 0).trans rfl
            have HDOM := Aside0.mk (show sdom y.f0 from by unfold sdom maxLen; have := HYZ.out; omega)
            have hl : ∀ m, _ := fun m => MapIs.look ((HF6.out).m1.below (pw_below_drewN (Below.refl _ _) m)) keyStr Tryz.underlying90 (zero3 (w6.drewN m)) HDOM.out true
            cases qm : mget y.f0 (nmE (G.sy.map (·.f0))) with
            | none =>
              rw [qm] at hl
              simp only [if_true] at hl
              have HQM := Aside0.mk qm
              clear qm
              go_quiet (fail)
              have HF7 := Aside0.mk ((HF6.out).below (pw_below_drewN (Below.refl w6.heap.size w6) nq))
              have HX7 := Aside0.mk (blk_below HX6.out (pw_below_drewN (Below.refl w6.heap.size w6) nq))
              clear HF6 HX6 hq1 x0 hl
              generalize w6.drewN nq = w7 at *
              go_upto_region 18 with (fail)
              have hq1 := (HF7.out).rt.cells.2.1
              have x0 : w7.cell? ⟨by_, 0, none⟩ = some (.string y.f0) := (blk_cell HX7.out 0).trans rfl
              have d0 := (HF7.out).g.cells.1
              refine wp_region_still_tail 9 (by kernel_rfl) (by kernel_rfl) ?_
              simp only [List.take_succ_cons, List.take_zero, List.drop_succ_cons, List.drop_zero]
              repeat (refine wpStill_step (fun K hK => ?_); go_simp; refine hK _ ?_; clear hK K)
              refine wpStill_nil ?_
              change wpList _ _ _ _ _ w7.drew
              clear hq1 x0 d0
              have HF7d := Aside0.mk ((HF7.out).below (below_drew (Below.refl _ _)))
              have HX7d := Aside0.mk (blk_below HX7.out (below_drew (Below.refl _ _)))
              clear HF7 HX7
              generalize w7.drew = w7d at *
              obtain ⟨W8, hput, hm8, hg8⟩ := MapIs.put (HF7d.out).m1 keyStr Tryz.underlying90 HDOM.out (G.sy.length : Int)
              rw [show (G.sy.length : Int) = ((G.sy.map (·.f0)).length : Int) by rw [List.length_map], nmE_put HQM.out, ← HSN.out] at hm8
              unfold ki at hput
              have HF8 := Aside0.mk ((HF7d.out).put1 hm8 hg8)
              have HX8 := Aside0.mk (blk_grown HX7d.out hg8 (fun e => by have := Option.some.inj e; have := (HBY.out).1; omega))
              clear hm8 hg8 HF7d HX7d
              have HLE7 := Aside0.mk (show (G.sy.length + 1) * 24 ≤ 140737488355328 by have := HSL.out; omega)
              have d0 := (HF8.out).g.cells.1
              have x0 : W8.cell? ⟨by_, 0, none⟩ = some (.string y.f0) := (blk_cell HX8.out 0).trans rfl
              have x1 : W8.cell? ⟨by_, 1, none⟩ = some (.int .i64 y.f1) := (blk_cell HX8.out 1).trans rfl
              clear HX8
              go_wp2_with ((with_reducible refine gate_builtin (b := .append) (xs := #[.tmp 95, .tmp 97]) rfl ?_); at_builtin; refine Kd.R_append k71 (w0 := w) w.heap.size rfl (.tmp 95) (.tmp 97) 22 71 (.agg #[.string ⟨#[]⟩, .int .i64 0]) 24 rfl Tryz.underlying22 Q.info71 rfl (show 0 < 2 by decide) (by decide) (.slice A1 G.sy.length c1) G.sy y [.string y.f0, .int .i64 y.f1] (fun k => B + 1 + 1 < k) (fun _ => False) rfl rfl (Q.k71_mkM _ _ _ y) (fun _ hk => hk.elim) (fun k hk => Nat.lt_of_lt_of_le (HF8.out).lt hk) (HF8.out).r1 (HF8.out).hb (HF8.out).hb.size HLE7.out ?_; intro v9 w9 ho5 hb5 hg5 hat5; (obtain ⟨A9, c9, rfl⟩ := Kd.R_slice ho5); have HF9 := Aside0.mk ((HF8.out).push1 ho5 hb5 hg5); have hGG := (HF8.out).g.grown hb5 hg5 (fun k hk => by have := (HF8.out).r1.1 k hk; have := (HF8.out).n; omega); have c6 := hGG.cells.1; have f6 := hGG.frozen.1; clear hGG ho5 hb5 hg5 hat5)
              go_roundg (n - (i + 1))
              case measure => have := HIN.out; omega
              case rel => exact ⟨i + 1, { G with sy := G.sy ++ [y] }, A9, c9, A2, c2, A3, c3, HIN.out, Nat.le_refl _, rfl, rfl, by rw [HKZ.out], ⟨HSTEP.out.trans HGO.out⟩, ⟨by show (G.sy ++ [y]).length + G.fs.length = i + 1; have := (HN.out).1; rw [List.length_append, List.length_singleton]; omega, (HN.out).2⟩, HF9⟩
            | some v0 =>
              rw [qm] at hl
              simp only [if_true] at hl
              unfold ki at hl
              have HKE := Aside0.mk (nmE_keep qm)
              rw [← HSN.out] at HKE
              clear qm
              go_quiet (fail)
              have HF8 := (HF6.out).below (pw_below_drewN (Below.refl w6.heap.size w6) nq)
              rw [HKE.out] at HF8
              have HF8 := Aside0.mk HF8
              have HX8 := Aside0.mk (blk_below HX6.out (pw_below_drewN (Below.refl w6.heap.size w6) nq))
              clear HF6 HX6 hq1 x0 hl HKE
              generalize w6.drewN nq = W8 at *
              have HLE7 := Aside0.mk (show (G.sy.length + 1) * 24 ≤ 140737488355328 by have := HSL.out; omega)
              have d0 := (HF8.out).g.cells.1
              have x0 : W8.cell? ⟨by_, 0, none⟩ = some (.string y.f0) := (blk_cell HX8.out 0).trans rfl
              have x1 : W8.cell? ⟨by_, 1, none⟩ = some (.int .i64 y.f1) := (blk_cell HX8.out 1).trans rfl
              clear HX8
              go_wp2_with ((with_reducible refine gate_builtin (b := .append) (xs := #[.tmp 95, .tmp 97]) rfl ?_); at_builtin; refine Kd.R_append k71 (w0 := w) w.heap.size rfl (.tmp 95) (.tmp 97) 22 71 (.agg #[.string ⟨#[]⟩, .int .i64 0]) 24 rfl Tryz.underlying22 Q.info71 rfl (show 0 < 2 by decide) (by decide) (.slice A1 G.sy.length c1) G.sy y [.string y.f0, .int .i64 y.f1] (fun k => B + 1 + 1 < k) (fun _ => False) rfl rfl (Q.k71_mkM _ _ _ y) (fun _ hk => hk.elim) (fun k hk => Nat.lt_of_lt_of_le (HF8.out).lt hk) (HF8.out).r1 (HF8.out).hb (HF8.out).hb.size HLE7.out ?_; intro v9 w9 ho5 hb5 hg5 hat5; (obtain ⟨A9, c9, rfl⟩ := Kd.R_slice ho5); have HF9 := Aside0.mk ((HF8.out).push1 ho5 hb5 hg5); have hGG := (HF8.out).g.grown hb5 hg5 (fun k hk => by have := (HF8.out).r1.1 k hk; have := (HF8.out).n; omega); have c6 := hGG.cells.1; have f6 := hGG.frozen.1; clear hGG ho5 hb5 hg5 hat5)
              go_roundg (n - (i + 1))
              case measure => have := HIN.out; omega
              case rel => exact ⟨i + 1, { G with sy := G.sy ++ [y] }, A9, c9, A2, c2, A3, c3, HIN.out, Nat.le_refl _, rfl, rfl, by rw [HKZ.out], ⟨HSTEP.out.trans HGO.out⟩, ⟨by show (G.sy ++ [y]).length + G.fs.length = i + 1; have := (HN.out).1; rw [List.length_append, List.length_singleton]; omega, (HN.out).2⟩, HF9⟩
      all_goals
        have HLN := Aside0.mk (lnStep_fun0 (g := G) (s := s) (by first | exact fun x => hfz x.2 | exact fun x => by rw [q1] at x; exact Bool.false_ne_true x.1))
        have HP2 := Aside0.mk (fun (W1 : World) => Tryz.strings_CutPrefix s ⟨#[102, 117, 110, 32]⟩ W1)
        rw [show (ByteArray.mk #[102, 117, 110, 32]).data.toList = pFun from rfl] at HP2
        try (have hfzz : ((G.fs.length : Int) == 0) = false := by simpa using hfz)
        have HTL := Aside0.mk (show (Lib.trimPrefix s.data.toList pFun).length ≤ 65536 from by have := trim_len s.data.toList pFun; rw [← Lib.size_eq] at this; have := HSB.out; have := HSZ.out; omega)
        unfold lnFun at HLN
        go_wp2_with fail
        refine (HP2.out _).mono ?_
        rintro E w5 ⟨rfl, hw⟩
        subst hw
        clear HP1 HP2 q1
        try clear hfzz
        try clear hfz
        generalize Lib.trimPrefix s.data.toList pFun = l0 at *
        generalize Lib.hasPrefix s.data.toList pFun = b0 at *
        have HC1 := Aside0.mk (cut_calls ⟨l0.toArray⟩ ⟨#[32, 58, 32]⟩ w5 (by show l0.toArray.size ≤ 70000; rw [List.size_toArray]; have := HTL.out; omega) ((HM.out).below (HF.out).hb))
        rw [show (ByteArray.mk l0.toArray).data.toList = l0 from rfl, show (ByteArray.mk #[32, 58, 32]).data.toList = [32, 58, 32] from rfl] at HC1
        have HC1S := Aside0.mk (cut_size l0 [32, 58, 32])
        clear hk g1
        generalize (Lib.cut l0 [32, 58, 32]).2.2 = b1 at *
        generalize (Lib.cut l0 [32, 58, 32]).2.1 = l1 at *
        generalize (Lib.cut l0 [32, 58, 32]).1 = n0 at *
        go_wp2_with fail
        refine (HC1.out).mono ?_
        rintro E w6 ⟨rfl, hb⟩
        have HF6 := Aside0.mk ((HF.out).below hb)
        clear hb HF HC1
        have HC2 := Aside0.mk (cut_calls ⟨l1.toArray⟩ ⟨#[32, 61, 32]⟩ w6 (by show l1.toArray.size ≤ 70000; rw [List.size_toArray]; have := HTL.out; have := HC1S.out; omega) ((HM.out).below (HF6.out).hb))
        rw [show (ByteArray.mk l1.toArray).data.toList = l1 from rfl, show (ByteArray.mk #[32, 61, 32]).data.toList = [32, 61, 32] from rfl] at HC2
        have HC2S := Aside0.mk (cut_size l1 [32, 61, 32])
        generalize (Lib.cut l1 [32, 61, 32]).2.2 = b2 at *
        generalize (Lib.cut l1 [32, 61, 32]).2.1 = l2 at *
        generalize (Lib.cut l1 [32, 61, 32]).1 = so at *
        have HZO := Aside0.mk (show (ByteArray.mk so.toArray).size ≤ 65536 from by show so.toArray.size ≤ 65536; rw [List.size_toArray]; have := HTL.out; have := (HC1S.out).2; have := (HC2S.out).1; omega)
        have HZN := Aside0.mk (show (ByteArray.mk n0.toArray).size ≤ 65536 from by show n0.toArray.size ≤ 65536; rw [List.size_toArray]; have := HTL.out; have := (HC1S.out).1; omega)
        clear HTL HC1S HC2S
        go_wp2_with fail
        refine (HC2.out).mono ?_
        rintro E w7 ⟨rfl, hb⟩
        have HF7 := Aside0.mk ((HF6.out).below hb)
        clear hb HF6 HC2
        generalize (ByteArray.mk n0.toArray) = nm at *
        generalize (ByteArray.mk so.toArray) = sb at *
        generalize (ByteArray.mk l2.toArray) = bt2 at *
        cases b0 with
        | false =>
          have HX := Aside0.mk (HBAD.out (by rw [HLN.out, if_neg (fun x => Bool.false_ne_true x.1)]))
          go_wp2
          exact get3_panic HX.out (HF7.out).g _ rfl rfl
        | true =>
        cases b1 with
        | false =>
          have HX := Aside0.mk (HBAD.out (by rw [HLN.out, if_neg (fun x => Bool.false_ne_true x.2.1)]))
          go_wp2
          exact get3_panic HX.out (HF7.out).g _ rfl rfl
        | true =>
        cases b2 with
        | false =>
          have HX := Aside0.mk (HBAD.out (by rw [HLN.out, if_neg (fun x => Bool.false_ne_true x.2.2.1)]))
          go_wp2
          exact get3_panic HX.out (HF7.out).g _ rfl rfl
        | true =>
        have HNM := Aside0.mk (name_calls nm w7)
        go_wp2_with fail
        refine (HNM.out).mono ?_
        rintro E w8 ⟨rfl, hb⟩
        have HF8 := Aside0.mk ((HF7.out).below hb)
        clear hb HF7 HNM
        cases qn : nameB nm with
        | false =>
          have HX := Aside0.mk (HBAD.out (by rw [HLN.out, if_neg (fun x => by rw [qn] at x; exact Bool.false_ne_true x.2.2.2)]))
          clear qn
          go_wp2
          exact get3_panic HX.out (HF8.out).g _ rfl rfl
        | true =>
        have HLN2 := Aside0.mk (show lnStep G s = (if (getSR sb).1 = 4 then none else some { sy := G.sy, fs := G.fs ++ [⟨nm, (getSR sb).2, ⟨0, 0, []⟩⟩], bo := G.bo ++ [bt2], large := G.large || decide ((getSR sb).1 ≠ 0) }) by rw [HLN.out, if_pos ⟨by first | trivial | rfl, by first | trivial | rfl, by first | trivial | rfl, qn⟩])
        clear HLN qn
        have HGS := Aside0.mk (gets_calls sb w8)
        unfold GetSE at HGS
        generalize (getSR sb).1 = er at *
        generalize (getSR sb).2 = srt at *
        go_wp2_with fail
        refine (HGS.out).mono ?_
        rintro E w9 ⟨A9, c9, rfl, hR, hb⟩
        have HF9 := Aside0.mk ((HF8.out).below hb)
        have HR9 := Aside0.mk (Kd.R_new' hR (Kd.R_lt (HF8.out).r2))
        have HSZ8 := Aside0.mk (show B + 1 + 1 < w8.heap.size ∧ w.heap.size ≤ w8.heap.size from ⟨(HF8.out).lt, (HF8.out).hb.size⟩)
        have HSZ9 := Aside0.mk hb.size
        clear hb hR HF8 HGS
        go_upto_region 26 with (fail)
        have bx := below_alloc (Below.refl w9.heap.size w9) (.cells #[.slice A9 srt.f0.length c9] 47)
        have HX10 := Aside0.mk (blk_new w9 (.cells #[.slice A9 srt.f0.length c9] 47))
        have HF10 := Aside0.mk ((HF9.out).below bx)
        have HR10 := Aside0.mk (Kd.R_lower (base' := w.heap.size) (Kd.R_mono (ok' := fun k => B + 1 + 1 < k ∧ some k ≠ (Value.slice A2 G.fs.length c2).ownBlock) (Kd.R_below HR9.out bx) (fun k hk => ⟨by have := HSZ8.out; omega, hk.2⟩)) (HSZ8.out).2)
        have HBX := Aside0.mk (show B + 1 + 1 < w9.heap.size from by have := HSZ8.out; have := HSZ9.out; omega)
        clear bx HF9 HR9 HSZ8 HSZ9
        generalize (w9.alloc (.cells #[.slice A9 srt.f0.length c9] 47)) = w10 at *
        generalize w9.heap.size = bx at *
        by_cases h4 : er = 4
        · have HX := Aside0.mk (HBAD.out (by rw [HLN2.out, if_pos h4]))
          subst h4
          go_wp2
          exact get3_panic HX.out (HF10.out).g _ rfl rfl
        · have HGO := Aside0.mk (HLN2.out.trans (if_neg h4))
          have h4z : (er == 4) = false := by simpa using h4
          have HFSL := Aside0.mk (show G.fs.length ≤ 70000 from by have := (HN.out).1; have := HLS.out; have := HIN.out; omega)
          clear HLN2 HBAD
          go_upto_region 28 with (fail)
          clear h4 h4z
          generalize hlv : (G.large || decide (er ≠ 0)) = lg at *
          have HLG := Aside0.mk hlv
          clear hlv
          go_cut [7] from 57 to 178 (fun v7 wx => v7 = .bool lg ∧ wx = w10)
          case first =>
            cases hlg : G.large with
            | true =>
              go_wp2
              go_meet
              exact ⟨by rw [← HLG.out, hlg]; rfl, rfl⟩
            | false =>
              by_cases h0 : er = 0
              · subst h0
                go_wp2
                go_meet
                exact ⟨by rw [← HLG.out, hlg]; rfl, rfl⟩
              · have h0z : (er == 0) = false := by simpa using h0
                have h0y : (er != 0) = true := by simpa using h0
                go_wp2
                go_meet
                exact ⟨by rw [← HLG.out, hlg, decide_eq_true h0]; rfl, rfl⟩
          case rest =>
          obtain ⟨e7, ew⟩ := hcut
          replace ew := ew.symm
          subst ew
          subst e7
          have hq1 := (HF10.out).rt.cells.2.2
          have HDOM := Aside0.mk (show sdom nm from by unfold sdom maxLen; have := HZN.out; omega)
          have hl : (Instr.lookup 90 (.map (some (B + 1))) (.string nm) true).run Tryz.prog w10 = .ok (.tuple #[.int .i64 ((mget nm (nmE (G.fs.map (·.f0)))).getD 0), .bool (mget nm (nmE (G.fs.map (·.f0)))).isSome]) w10 := by
            have h := MapIs.look (HF10.out).m2 keyStr Tryz.underlying90 (zero3 w10) HDOM.out true
            rw [h]
            cases mget nm (nmE (G.fs.map (·.f0))) with
            | none => rfl
            | some v => rfl
          have HQN := Aside0.mk (fun (h : (mget nm (nmE (G.fs.map (·.f0)))).isSome = false) => (show mget nm (nmE (G.fs.map (·.f0))) = none from by cases e : mget nm (nmE (G.fs.map (·.f0))) with | none => rfl | some v => rw [e] at h; cases h))
          have HQS := Aside0.mk (fun (h : (mget nm (nmE (G.fs.map (·.f0)))).isSome = true) => (show ∃ v, mget nm (nmE (G.fs.map (·.f0))) = some v from Option.isSome_iff_exists.1 h))
          generalize (mget nm (nmE (G.fs.map (·.f0)))).isSome = bs at *
          generalize (mget nm (nmE (G.fs.map (·.f0)))).getD 0 = vs at *
          have HSN := Aside0.mk (show (G.fs ++ [(⟨nm, srt, ⟨0, 0, []⟩⟩ : S52)]).map (·.f0) = G.fs.map (·.f0) ++ [nm] by simp)
          go_upto_if 158 with (fail)
          clear hq1 hl
          have HF11 := HF10
          have HX11 := HX10
          have HR11 := HR10
          clear HF10 HX10 HR10
          generalize w10 = w11 at *
          go_cut [] from 57 to 178 (fun wx => Aside0 (FL w wx L bl B (B + 1) (B + 1 + 1) [] G.sy G.fs G.bo (nmE (G.sy.map (·.f0))) (nmE ((G.fs ++ [(⟨nm, srt, ⟨0, 0, []⟩⟩ : S52)]).map (·.f0))) A1 c1 A2 c2 A3 c3) ∧ Aside0 (wx.heap[bx]? = some (.cells #[.slice A9 srt.f0.length c9] 47 (0, 0))) ∧ Aside0 (Kd.R k47 47 wx w.heap.size (fun k => B + 1 + 1 < k ∧ some k ≠ (Value.slice A2 G.fs.length c2).ownBlock) (.slice A9 srt.f0.length c9) srt.f0))
          case first =>
            cases bs with
            | true =>
              obtain ⟨v, hv⟩ := HQS.out rfl
              have HKE := Aside0.mk (nmE_keep hv)
              rw [← HSN.out] at HKE
              have HF12 := HF11.out
              rw [HKE.out] at HF12
              have HF12 := Aside0.mk HF12
              clear hv
              go_wp2
              go_meet
              exact ⟨HF12, HX11, HR11⟩
            | false =>
              have HQM := Aside0.mk (HQN.out rfl)
              go_upto_region 31 with (fail)
              have hq1 := (HF11.out).rt.cells.2.2
              have d0 := (HF11.out).g.cells.2.1
              refine wp_region_still_tail 8 (by kernel_rfl) (by kernel_rfl) ?_
              simp only [List.take_succ_cons, List.take_zero, List.drop_succ_cons, List.drop_zero]
              repeat (refine wpStill_step (fun K hK => ?_); go_simp; refine hK _ ?_; clear hK K)
              refine wpStill_nil ?_
              change wpList _ _ _ _ _ w11.drew
              clear hq1 d0
              have HF7d := Aside0.mk ((HF11.out).below (below_drew (Below.refl _ _)))
              have HX7d := Aside0.mk (blk_below HX11.out (below_drew (Below.refl _ _)))
              have HR7d := Aside0.mk (Kd.R_below HR11.out (below_drew (Below.refl _ _)))
              clear HF11 HX11 HR11
              generalize w11.drew = w7d at *
              obtain ⟨W8, hput, hm8, hg8⟩ := MapIs.put (HF7d.out).m2 keyStr Tryz.underlying90 HDOM.out (G.fs.length : Int)
              rw [show (G.fs.length : Int) = ((G.fs.map (·.f0)).length : Int) by rw [List.length_map], nmE_put HQM.out, ← HSN.out] at hm8
              unfold ki at hput
              have HF8 := Aside0.mk ((HF7d.out).put2 hm8 hg8)
              have HX8 := Aside0.mk (blk_grown HX7d.out hg8 (fun e => by have := Option.some.inj e; have := HBX.out; omega))
              have HR8 := Aside0.mk (Kd.R_grown HR7d.out hg8 (fun k hk e => by have := Option.some.inj e; have := hk.1; omega))
              clear hm8 hg8 HF7d HX7d HR7d
              go_wp2
              go_meet
              exact ⟨HF8, HX8, HR8⟩
          case rest =>
          clear HF11 HX11 HR11 HQN HQS
          obtain ⟨HF12, HX12, HR12⟩ := hcut
          generalize wc = wx at *
          have x0 : wx.cell? ⟨bx, 0, none⟩ = some (.slice A9 srt.f0.length c9) := (blk_cell HX12.out 0).trans rfl
          have d1 := (HF12.out).g.cells.2.1
          have HLE7 := Aside0.mk (show (G.fs.length + 1) * 80 ≤ 140737488355328 by have := HFSL.out; omega)
          have HLE8 := Aside0.mk (show (G.bo.length + 1) * 16 ≤ 140737488355328 by have := HFSL.out; have := (HN.out).2; omega)
          have hbx0 := HBX.out
          clear HX12
          go_wp2_with (first
            | ((with_reducible refine gate_builtin (b := .append) (xs := #[.tmp 168, .tmp 172]) rfl ?_); at_builtin; refine Kd.R_append k52 (w0 := w) w.heap.size rfl (.tmp 168) (.tmp 172) 23 52 (.agg #[.string ⟨#[]⟩, .slice none 0 0, .int .i64 0, .int .i64 0, .slice none 0 0]) 80 rfl Tryz.underlying23 Q.info52 rfl (show 0 < 5 by decide) (by decide) (.slice A2 G.fs.length c2) G.fs ⟨nm, srt, ⟨0, 0, []⟩⟩ [.string nm, .slice A9 srt.f0.length c9, .int .i64 0, .int .i64 0, .slice none 0 0] (fun k => B + 1 + 1 < k) (fun k => B + 1 + 1 < k ∧ some k ≠ (Value.slice A2 G.fs.length c2).ownBlock) rfl rfl (Q.k52_mkM _ _ _ ⟨nm, srt, ⟨0, 0, []⟩⟩ HR12.out (Kd.R_nil _ _ _ _ _)) (fun _ hk => hk) (fun k hk => Nat.lt_of_lt_of_le (HF12.out).lt hk) (HF12.out).r2 (HF12.out).hb (HF12.out).hb.size HLE7.out ?_; intro v13 w13 ho5 hb5 hg5 hat5; (obtain ⟨A5, c5, rfl⟩ := Kd.R_slice ho5); have HF13 := Aside0.mk ((HF12.out).push2 ho5 hb5 hg5); have hGG := (HF12.out).g.grown hb5 hg5 (fun k hk => by have := (HF12.out).r2.1 k hk; have := (HF12.out).n; omega); have c6 := hGG.cells.2.1; have f6 := hGG.frozen.2.1; clear hGG ho5 hb5 hg5 hat5)
            | ((with_reducible refine gate_builtin (b := .append) (xs := #[.tmp 175, .tmp 177]) rfl ?_); at_builtin; refine Kd.R_append Kd.string (w0 := w) w.heap.size rfl (.tmp 175) (.tmp 177) 87 9 (.string ⟨#[]⟩) 16 rfl Tryz.underlying87 info9 rfl (show 0 < 1 by decide) (by decide) (.slice A3 G.bo.length c3) G.bo bt2 [.string bt2] (fun k => B + 1 + 1 < k) (fun _ => False) rfl (by first | rfl | (show Value.slice (some ⟨w13.heap.size, 0, none⟩) 1 1 = _; simp; done) | (show Value.slice (some ⟨w13.heap.size, 0, none⟩) 1 1 = _; simp [World.setCell]; done)) rfl (fun _ hk => hk.elim) (fun k hk => Nat.lt_of_lt_of_le (HF13.out).lt hk) (HF13.out).r3 (HF13.out).hb (HF13.out).hb.size HLE8.out ?_; intro v15 w15 ho5 hb5 hg5 hat5; (obtain ⟨A6, c6, rfl⟩ := Kd.R_slice ho5); have HF15 := Aside0.mk ((HF13.out).push3 ho5 hb5 hg5); clear ho5 hb5 hg5 hat5)
            | fail)
          go_roundg (n - (i + 1))
          case measure => have := HIN.out; omega
          case rel => exact ⟨i + 1, { sy := G.sy, fs := G.fs ++ [⟨nm, srt, ⟨0, 0, []⟩⟩], bo := G.bo ++ [bt2], large := lg }, A1, c1, A5, c5, A6, c6, HIN.out, Nat.le_refl _, by show _ = Value.slice A6 (G.bo ++ [bt2]).length c6; rw [List.length_append]; rfl, rfl, by rw [HKZ.out], ⟨HSTEP.out.trans HGO.out⟩, ⟨by show G.sy.length + (G.fs ++ [_]).length = i + 1; have := (HN.out).1; rw [List.length_append, List.length_singleton]; omega, by show (G.bo ++ [bt2]).length = (G.fs ++ [_]).length; have := (HN.out).2; rw [List.length_append, List.length_append, List.length_singleton, List.length_singleton]; omega⟩, HF15⟩
    · obtain rfl : n = i := by omega
      have HVV := Aside0.mk (HV3.out HLE.out G HG.out)
      have HLS2 := Aside0.mk (show G.bo.length ≤ 70000 from by have := (HN.out).1; have := (HN.out).2; have := HLS.out; omega)
      have HNB := Aside0.mk (HN.out).2
      have HBZ := Aside0.mk (lnAll_bo (m := 65536) _ _ _ (fun s hs => by
        obtain ⟨q, hq, rfl⟩ := List.getElem_of_mem (List.mem_of_mem_take hs)
        have h1 := HCS.out q
        rw [List.getD_eq_getElem?_getD, List.getElem?_eq_getElem hq] at h1
        have := HSZ.out
        simp only [Option.getD_some] at h1
        omega) (by simp) HG.out)
      clear HV1 HV2 HV3 HG HN hi hgg hlt HCS HLEE HLE HLL HLT hmf
      go_wp2
      go_loopg [182] G.bo.length (fun gg v182 wi => ∃ (j : Nat) (dn : List S52), j ≤ G.bo.length ∧ G.bo.length - j ≤ gg ∧ v182 = .int .i64 j ∧ Aside0 (dn.length = j) ∧ Aside0 (boAll (nmE (G.sy.map (·.f0))) (nmE (G.fs.map (·.f0))) G.fs G.bo = (boAll (nmE (G.sy.map (·.f0))) (nmE (G.fs.map (·.f0))) (G.fs.drop j) (G.bo.drop j)).map (dn ++ ·)) ∧ Aside0 (FL w wi L bl B (B + 1) (B + 1 + 1) [] G.sy (dn ++ G.fs.drop j) G.bo (nmE (G.sy.map (·.f0))) (nmE (G.fs.map (·.f0))) A1 c1 A2 c2 A3 c3))
      case atStart => exact ⟨0, [], Nat.zero_le _, Nat.le_refl _, rfl, ⟨rfl⟩, ⟨by simp⟩, HF⟩
      case round =>
        clear HF
        obtain ⟨j, dn, hj, hgg, rfl, HDN, HBO, HF⟩ := hrel
        by_cases hlt : j < G.bo.length
        · have hltz : (j : Int) < (G.bo.length : Int) := by omega
          have HLT := Aside0.mk hlt
          have HNX := Aside0.mk (boAll_next (e1 := nmE (G.sy.map (·.f0))) (e2 := nmE (G.fs.map (·.f0))) hlt HNB.out HDN.out)
          have HSX := Aside0.mk (fun x => set_next (fs := G.fs) HDN.out (by have := HNB.out; omega) x)
          have HGX := Aside0.mk (get_next (fs := G.fs) HDN.out (by have := HNB.out; omega))
          have HFLN := Aside0.mk (show (dn ++ G.fs.drop j).length = G.fs.length by have := HDN.out; have := HNB.out; rw [List.length_append, List.length_drop]; omega)
          have HKZ := Aside0.mk (show wrap64 ((j : Int) + 1) = ((j + 1 : Nat) : Int) by rw [wr_id (by omega) (by have := HLS2.out; omega)]; rfl)
          have HBS := Aside0.mk (show (G.bo.getD j ByteArray.empty).size ≤ 65536 from (HBZ.out) _ (by rw [List.getD_eq_getElem?_getD, List.getElem?_eq_getElem hlt]; exact List.getElem_mem hlt))
          obtain ⟨g3, cap3, e3, _⟩ := Kd.R_form (HF.out).r3 (show 0 < G.bo.length by omega)
          injection e3 with e31 _ e33
          subst e31
          subst e33
          have hk : wr.cell? ⟨g3, j, none⟩ = some (.string (G.bo.getD j ByteArray.empty)) := (Kd.R_celln ByteArray.empty (HF.out).r3 (j : Int) (by omega) hltz).1
          generalize G.bo.getD j ByteArray.empty = bj at *
          have hdl : 0 < (dn ++ G.fs.drop j).length := by have := HFLN.out; have := HNB.out; omega
          obtain ⟨g2, cap2, e2, _⟩ := Kd.R_form (HF.out).r2 hdl
          injection e2 with e21 _ e23
          subst e21
          subst e23
          generalize hF0 : dn ++ G.fs.drop j = F at *
          have hb0 := (HF.out).rt.cells.1.1
          have hb1 := (HF.out).rt.cells.1.2
          go_upto_region 39 with (fail)
          have HF2 := Aside0.mk ((HF.out).setT bj)
          clear hb0 hb1 hk hdl HF
          generalize wr.setCell ⟨B + 1 + 1, 0, none⟩ (.string bj) = w5 at *
          have hd := below_drew (Below.refl w5.heap.size w5)
          have HFD := Aside0.mk ((HF2.out).below hd)
          have HTM := Aside0.mk (rtm_calls (B + 1 + 1) B (B + 1) (nmE (G.sy.map (·.f0))) (nmE (G.fs.map (·.f0))) 70000 bj.data.toList w5.drew (by rw [← Lib.size_eq]; have := HBS.out; omega) (Nat.le_refl _) (HFD.out).rm)
          have HOLD := Aside0.mk (HF2.out).g.cells.2.1
          cases qt : tmR (nmE (G.sy.map (·.f0))) (nmE (G.fs.map (·.f0))) bj.data.toList with
          | none =>
            have HX := Aside0.mk (getR3_bad HSZ.out (HVV.out.trans (by rw [HBO.out, HNX.out, qt]; rfl)))
            have HC := Aside0.mk ((HTM.out).mono (R' := fun E w' => E = pwrong ∧ KR (B + 1 + 1) w5.drew w') (fun E w' hE => by
              obtain ⟨hk, ⟨_, rfl⟩ | ⟨t4, r4, v4, hv, _⟩⟩ := hE
              · exact ⟨rfl, hk⟩
              · rw [qt] at hv; cases hv))
            clear qt HTM
            unfold pwrong at HC
            have d1 := (HF2.out).g.cells.2.1
            have d2 := pw_cell_below hd d1
            clear hd
            refine wp_region_any (by kernel_rfl) ?_
            change wpAny _ _ _ _ _ _ _ (World.drew _)
            refine wpAny_ready (rs := [0, 2, 3]) (by kernel_rfl) (by simp) ?_
            refine AllReady.cons rfl (fun K hK => ?_) ?_
            · go_simp
              refine hK _ _ ?_
              clear hK K
              refine wpAny_ready (rs := [1, 2, 3]) (by kernel_rfl) (by simp) ?_
              refine AllReady.cons rfl (fun K hK => ?_) ?_
              · go_simp
                refine hK _ _ ?_
                clear hK K
                refine wpAny_ready (rs := [2, 3]) (by kernel_rfl) (by simp) ?_
                refine AllReady.cons rfl (fun K hK => ?_) ?_
                · go_simp
                  refine hK _ _ ?_
                  clear hK K
                  refine wpAny_ready (rs := [3]) (by kernel_rfl) (by simp) ?_
                  refine AllReady.cons rfl (fun K hK => ?_) ?_
                  · go_simp
                    refine hK _ _ ?_
                    clear hK K
                    refine wpAny_ready (rs := [4]) (by kernel_rfl) (by simp) ?_
                    refine AllReady.cons rfl (fun K hK => ?_) ?_
                    · go_simp
                      go_wp2_with (go_at_call 60; refine (HC.out).mono ?_; rintro E w8 ⟨rfl, hk⟩; exact get3_panic HX.out ((HFD.out).gone hk) _ rfl rfl)
                    exact AllReady.nil
                  exact AllReady.nil
                refine AllReady.cons rfl (fun K hK => ?_) ?_
                · go_simp
                  refine hK _ _ ?_
                  clear hK K
                  refine wpAny_ready (rs := [2, 4]) (by kernel_rfl) (by simp) ?_
                  refine AllReady.cons rfl (fun K hK => ?_) ?_
                  · go_simp
                    refine hK _ _ ?_
                    clear hK K
                    refine wpAny_ready (rs := [4]) (by kernel_rfl) (by simp) ?_
                    refine AllReady.cons rfl (fun K hK => ?_) ?_
                    · go_simp
                      go_wp2_with (go_at_call 60; refine (HC.out).mono ?_; rintro E w8 ⟨rfl, hk⟩; exact get3_panic HX.out ((HFD.out).gone hk) _ rfl rfl)
                    exact AllReady.nil
                  refine AllReady.cons rfl (fun K hK => ?_) ?_
                  · go_simp
                    go_wp2_with (go_at_call 60; refine (HC.out).mono ?_; rintro E w8 ⟨rfl, hk⟩; exact get3_panic HX.out ((HFD.out).gone hk) _ rfl rfl)
                  exact AllReady.nil
                exact AllReady.nil
              refine AllReady.cons rfl (fun K hK => ?_) ?_
              · go_simp
                refine hK _ _ ?_
                clear hK K
                refine wpAny_ready (rs := [1, 3]) (by kernel_rfl) (by simp) ?_
                refine AllReady.cons rfl (fun K hK => ?_) ?_
                · go_simp
                  refine hK _ _ ?_
                  clear hK K
                  refine wpAny_ready (rs := [3]) (by kernel_rfl) (by simp) ?_
                  refine AllReady.cons rfl (fun K hK => ?_) ?_
                  · go_simp
                    refine hK _ _ ?_
                    clear hK K
                    refine wpAny_ready (rs := [4]) (by kernel_rfl) (by simp) ?_
                    refine AllReady.cons rfl (fun K hK => ?_) ?_
                    · go_simp
                      go_wp2_with (go_at_call 60; refine (HC.out).mono ?_; rintro E w8 ⟨rfl, hk⟩; exact get3_panic HX.out ((HFD.out).gone hk) _ rfl rfl)
                    exact AllReady.nil
                  exact AllReady.nil
                refine AllReady.cons rfl (fun K hK => ?_) ?_
                · go_simp
                  refine hK _ _ ?_
                  clear hK K
                  refine wpAny_ready (rs := [1, 4]) (by kernel_rfl) (by simp) ?_
                  refine AllReady.cons rfl (fun K hK => ?_) ?_
                  · go_simp
                    refine hK _ _ ?_
                    clear hK K
                    refine wpAny_ready (rs := [4]) (by kernel_rfl) (by simp) ?_
                    refine AllReady.cons rfl (fun K hK => ?_) ?_
                    · go_simp
                      go_wp2_with (go_at_call 60; refine (HC.out).mono ?_; rintro E w8 ⟨rfl, hk⟩; exact get3_panic HX.out ((HFD.out).gone hk) _ rfl rfl)
                    exact AllReady.nil
                  refine AllReady.cons rfl (fun K hK => ?_) ?_
                  · go_simp
                    go_wp2_with (go_at_call 60; refine (HC.out).mono ?_; rintro E w8 ⟨rfl, hk⟩; exact get3_panic HX.out ((HFD.out).gone hk) _ rfl rfl)
                  exact AllReady.nil
                exact AllReady.nil
              refine AllReady.cons rfl (fun K hK => ?_) ?_
              · go_simp
                refine hK _ _ ?_
                clear hK K
                refine wpAny_ready (rs := [1, 2, 4]) (by kernel_rfl) (by simp) ?_
                refine AllReady.cons rfl (fun K hK => ?_) ?_
                · go_simp
                  refine hK _ _ ?_
                  clear hK K
                  refine wpAny_ready (rs := [2, 4]) (by kernel_rfl) (by simp) ?_
                  refine AllReady.cons rfl (fun K hK => ?_) ?_
                  · go_simp
                    refine hK _ _ ?_
                    clear hK K
                    refine wpAny_ready (rs := [4]) (by kernel_rfl) (by simp) ?_
                    refine AllReady.cons rfl (fun K hK => ?_) ?_
                    · go_simp
                      go_wp2_with (go_at_call 60; refine (HC.out).mono ?_; rintro E w8 ⟨rfl, hk⟩; exact get3_panic HX.out ((HFD.out).gone hk) _ rfl rfl)
                    exact AllReady.nil
                  refine AllReady.cons rfl (fun K hK => ?_) ?_
                  · go_simp
                    go_wp2_with (go_at_call 60; refine (HC.out).mono ?_; rintro E w8 ⟨rfl, hk⟩; exact get3_panic HX.out ((HFD.out).gone hk) _ rfl rfl)
                  exact AllReady.nil
                refine AllReady.cons rfl (fun K hK => ?_) ?_
                · go_simp
                  refine hK _ _ ?_
                  clear hK K
                  refine wpAny_ready (rs := [1, 4]) (by kernel_rfl) (by simp) ?_
                  refine AllReady.cons rfl (fun K hK => ?_) ?_
                  · go_simp
                    refine hK _ _ ?_
                    clear hK K
                    refine wpAny_ready (rs := [4]) (by kernel_rfl) (by simp) ?_
                    refine AllReady.cons rfl (fun K hK => ?_) ?_
                    · go_simp
                      go_wp2_with (go_at_call 60; refine (HC.out).mono ?_; rintro E w8 ⟨rfl, hk⟩; exact get3_panic HX.out ((HFD.out).gone hk) _ rfl rfl)
                    exact AllReady.nil
                  refine AllReady.cons rfl (fun K hK => ?_) ?_
                  · go_simp
                    go_wp2_with (go_at_call 60; refine (HC.out).mono ?_; rintro E w8 ⟨rfl, hk⟩; exact get3_panic HX.out ((HFD.out).gone hk) _ rfl rfl)
                  exact AllReady.nil
                refine AllReady.cons rfl (fun K hK => ?_) ?_
                · go_simp
                  go_wp2_with (go_at_call 60; refine (HC.out).mono ?_; rintro E w8 ⟨rfl, hk⟩; exact get3_panic HX.out ((HFD.out).gone hk) _ rfl rfl)
                exact AllReady.nil
              exact AllReady.nil
            refine AllReady.cons rfl (fun K hK => ?_) ?_
            · go_simp
              refine hK _ _ ?_
              clear hK K
              refine wpAny_ready (rs := [0, 3]) (by kernel_rfl) (by simp) ?_
              refine AllReady.cons rfl (fun K hK => ?_) ?_
              · go_simp
                refine hK _ _ ?_
                clear hK K
                refine wpAny_ready (rs := [1, 3]) (by kernel_rfl) (by simp) ?_
                refine AllReady.cons rfl (fun K hK => ?_) ?_
                · go_simp
                  refine hK _ _ ?_
                  clear hK K
                  refine wpAny_ready (rs := [3]) (by kernel_rfl) (by simp) ?_
                  refine AllReady.cons rfl (fun K hK => ?_) ?_
                  · go_simp
                    refine hK _ _ ?_
                    clear hK K
                    refine wpAny_ready (rs := [4]) (by kernel_rfl) (by simp) ?_
                    refine AllReady.cons rfl (fun K hK => ?_) ?_
                    · go_simp
                      go_wp2_with (go_at_call 60; refine (HC.out).mono ?_; rintro E w8 ⟨rfl, hk⟩; exact get3_panic HX.out ((HFD.out).gone hk) _ rfl rfl)
                    exact AllReady.nil
                  exact AllReady.nil
                refine AllReady.cons rfl (fun K hK => ?_) ?_
                · go_simp
                  refine hK _ _ ?_
                  clear hK K
                  refine wpAny_ready (rs := [1, 4]) (by kernel_rfl) (by simp) ?_
                  refine AllReady.cons rfl (fun K hK => ?_) ?_
                  · go_simp
                    refine hK _ _ ?_
                    clear hK K
                    refine wpAny_ready (rs := [4]) (by kernel_rfl) (by simp) ?_
                    refine AllReady.cons rfl (fun K hK => ?_) ?_
                    · go_simp
                      go_wp2_with (go_at_call 60; refine (HC.out).mono ?_; rintro E w8 ⟨rfl, hk⟩; exact get3_panic HX.out ((HFD.out).gone hk) _ rfl rfl)
                    exact AllReady.nil
                  refine AllReady.cons rfl (fun K hK => ?_) ?_
                  · go_simp
                    go_wp2_with (go_at_call 60; refine (HC.out).mono ?_; rintro E w8 ⟨rfl, hk⟩; exact get3_panic HX.out ((HFD.out).gone hk) _ rfl rfl)
                  exact AllReady.nil
                exact AllReady.nil
              refine AllReady.cons rfl (fun K hK => ?_) ?_
              · go_simp
                refine hK _ _ ?_
                clear hK K
                refine wpAny_ready (rs := [0, 4]) (by kernel_rfl) (by simp) ?_
                refine AllReady.cons rfl (fun K hK => ?_) ?_
                · go_simp
                  refine hK _ _ ?_
                  clear hK K
                  refine wpAny_ready (rs := [1, 4]) (by kernel_rfl) (by simp) ?_
                  refine AllReady.cons rfl (fun K hK => ?_) ?_
                  · go_simp
                    refine hK _ _ ?_
                    clear hK K
                    refine wpAny_ready (rs := [4]) (by kernel_rfl) (by simp) ?_
                    refine AllReady.cons rfl (fun K hK => ?_) ?_
                    · go_simp
                      go_wp2_with (go_at_call 60; refine (HC.out).mono ?_; rintro E w8 ⟨rfl, hk⟩; exact get3_panic HX.out ((HFD.out).gone hk) _ rfl rfl)
                    exact AllReady.nil
                  refine AllReady.cons rfl (fun K hK => ?_) ?_
                  · go_simp
                    go_wp2_with (go_at_call 60; refine (HC.out).mono ?_; rintro E w8 ⟨rfl, hk⟩; exact get3_panic HX.out ((HFD.out).gone hk) _ rfl rfl)
                  exact AllReady.nil
                refine AllReady.cons rfl (fun K hK => ?_) ?_
                · go_simp
                  go_wp2_with (go_at_call 60; refine (HC.out).mono ?_; rintro E w8 ⟨rfl, hk⟩; exact get3_panic HX.out ((HFD.out).gone hk) _ rfl rfl)
                exact AllReady.nil
              exact AllReady.nil
            refine AllReady.cons rfl (fun K hK => ?_) ?_
            · go_simp
              refine hK _ _ ?_
              clear hK K
              refine wpAny_ready (rs := [0, 2, 4]) (by kernel_rfl) (by simp) ?_
              refine AllReady.cons rfl (fun K hK => ?_) ?_
              · go_simp
                refine hK _ _ ?_
                clear hK K
                refine wpAny_ready (rs := [1, 2, 4]) (by kernel_rfl) (by simp) ?_
                refine AllReady.cons rfl (fun K hK => ?_) ?_
                · go_simp
                  refine hK _ _ ?_
                  clear hK K
                  refine wpAny_ready (rs := [2, 4]) (by kernel_rfl) (by simp) ?_
                  refine AllReady.cons rfl (fun K hK => ?_) ?_
                  · go_simp
                    refine hK _ _ ?_
                    clear hK K
                    refine wpAny_ready (rs := [4]) (by kernel_rfl) (by simp) ?_
                    refine AllReady.cons rfl (fun K hK => ?_) ?_
                    · go_simp
                      go_wp2_with (go_at_call 60; refine (HC.out).mono ?_; rintro E w8 ⟨rfl, hk⟩; exact get3_panic HX.out ((HFD.out).gone hk) _ rfl rfl)
                    exact AllReady.nil
                  refine AllReady.cons rfl (fun K hK => ?_) ?_
                  · go_simp
                    go_wp2_with (go_at_call 60; refine (HC.out).mono ?_; rintro E w8 ⟨rfl, hk⟩; exact get3_panic HX.out ((HFD.out).gone hk) _ rfl rfl)
                  exact AllReady.nil
                refine AllReady.cons rfl (fun K hK => ?_) ?_
                · go_simp
                  refine hK _ _ ?_
                  clear hK K
                  refine wpAny_ready (rs := [1, 4]) (by kernel_rfl) (by simp) ?_
                  refine AllReady.cons rfl (fun K hK => ?_) ?_
                  · go_simp
                    refine hK _ _ ?_
                    clear hK K
                    refine wpAny_ready (rs := [4]) (by kernel_rfl) (by simp) ?_
                    refine AllReady.cons rfl (fun K hK => ?_) ?_
                    · go_simp
                      go_wp2_with (go_at_call 60; refine (HC.out).mono ?_; rintro E w8 ⟨rfl, hk⟩; exact get3_panic HX.out ((HFD.out).gone hk) _ rfl rfl)
                    exact AllReady.nil
                  refine AllReady.cons rfl (fun K hK => ?_) ?_
                  · go_simp
                    go_wp2_with (go_at_call 60; refine (HC.out).mono ?_; rintro E w8 ⟨rfl, hk⟩; exact get3_panic HX.out ((HFD.out).gone hk) _ rfl rfl)
                  exact AllReady.nil
                refine AllReady.cons rfl (fun K hK => ?_) ?_
                · go_simp
                  go_wp2_with (go_at_call 60; refine (HC.out).mono ?_; rintro E w8 ⟨rfl, hk⟩; exact get3_panic HX.out ((HFD.out).gone hk) _ rfl rfl)
                exact AllReady.nil
              refine AllReady.cons rfl (fun K hK => ?_) ?_
              · go_simp
                refine hK _ _ ?_
                clear hK K
                refine wpAny_ready (rs := [0, 4]) (by kernel_rfl) (by simp) ?_
                refine AllReady.cons rfl (fun K hK => ?_) ?_
                · go_simp
                  refine hK _ _ ?_
                  clear hK K
                  refine wpAny_ready (rs := [1, 4]) (by kernel_rfl) (by simp) ?_
                  refine AllReady.cons rfl (fun K hK => ?_) ?_
                  · go_simp
                    refine hK _ _ ?_
                    clear hK K
                    refine wpAny_ready (rs := [4]) (by kernel_rfl) (by simp) ?_
                    refine AllReady.cons rfl (fun K hK => ?_) ?_
                    · go_simp
                      go_wp2_with (go_at_call 60; refine (HC.out).mono ?_; rintro E w8 ⟨rfl, hk⟩; exact get3_panic HX.out ((HFD.out).gone hk) _ rfl rfl)
                    exact AllReady.nil
                  refine AllReady.cons rfl (fun K hK => ?_) ?_
                  · go_simp
                    go_wp2_with (go_at_call 60; refine (HC.out).mono ?_; rintro E w8 ⟨rfl, hk⟩; exact get3_panic HX.out ((HFD.out).gone hk) _ rfl rfl)
                  exact AllReady.nil
                refine AllReady.cons rfl (fun K hK => ?_) ?_
                · go_simp
                  go_wp2_with (go_at_call 60; refine (HC.out).mono ?_; rintro E w8 ⟨rfl, hk⟩; exact get3_panic HX.out ((HFD.out).gone hk) _ rfl rfl)
                exact AllReady.nil
              refine AllReady.cons rfl (fun K hK => ?_) ?_
              · go_simp
                go_wp2_with (go_at_call 60; refine (HC.out).mono ?_; rintro E w8 ⟨rfl, hk⟩; exact get3_panic HX.out ((HFD.out).gone hk) _ rfl rfl)
              exact AllReady.nil
            exact AllReady.nil
          | some p =>
            obtain ⟨tt, r⟩ := p
            rw [qt] at HNX
            have HC : Aside0 (Calls Tryz.prog 60 #[.pointer (some ⟨B + 1 + 1, 0, none⟩)] w5.drew fun E w' => ∃ A7 c7, E = .returned (.agg #[.int .i64 tt.f0, .int .i64 tt.f1, .slice A7 tt.f2.length c7]) ∧ Kd.R k50 50 w' w5.drew.heap.size (fun k => w5.drew.heap.size ≤ k) (.slice A7 tt.f2.length c7) tt.f2 ∧ RT (B + 1 + 1) r (.map (some B)) (.map (some (B + 1))) w' ∧ KR (B + 1 + 1) w5.drew w') := ⟨(HTM.out).mono fun E w' hE => by
              obtain ⟨hk, ⟨h0, _⟩ | ⟨t4, r4, v4, hv, rfl, hR, hr⟩⟩ := hE
              · rw [qt] at h0; cases h0
              · rw [qt] at hv
                cases hv
                obtain ⟨A7, c7, rfl⟩ := Kd.R_slice hR
                exact ⟨A7, c7, rfl, hR, hr, hk⟩⟩
            clear qt HTM
            have d1 := (HF2.out).g.cells.2.1
            have d2 := pw_cell_below hd d1
            have HGT := Aside0.mk (show B + 1 + 1 < w5.drew.heap.size ∧ w.heap.size ≤ w5.drew.heap.size from ⟨(HFD.out).lt, (HFD.out).hb.size⟩)
            have HJF := Aside0.mk (show j < F.length by have := HFLN.out; have := HNB.out; have := HLT.out; omega)
            have hjz : (j : Int) < (F.length : Int) := by have := HJF.out; omega
            clear hd
            refine wp_region_noPanic ?_
            go_region_law (first
              | (go_simp; go_at_call 60; refine (HC.out).mono ?_; rintro E w8 ⟨A7, c7, rfl, hR, hr, hk⟩; have HF8 := Aside0.mk ((HFD.out).call hk hr); have HR8 := Aside0.mk (Kd.R_lower (base' := w.heap.size) (Kd.R_mono (ok' := fun k => B + 1 + 1 < k ∧ k ≠ g2) (Kd.R_new' hR (Kd.R_lt (HFD.out).r2)) (fun k hk => ⟨by have := (HGT.out).1; omega, fun e => hk.2 (by rw [e]; rfl)⟩)) (HGT.out).2); have hbc := body_cells (HF8.out).r2 HJF.out; (obtain ⟨⟨x0, y0, z0, hx0, hy0, hz0⟩, fx0, fy0, fz0⟩ := hbc); have HRB := Aside0.mk (row_body (HF8.out).r2 HJF.out tt HR8.out (fun k hk => hk)); have d3 := (HF8.out).g.cells.2.1; clear hk hr hR)
              | fail)
            all_goals
              refine NoPanic.normal ?_
              rw [show ((w8.setCell ⟨g2, j * 5 + 2, none⟩ (.int .i64 tt.f0)).setCell ⟨g2, j * 5 + 2 + 1, none⟩ (.int .i64 tt.f1)).setCell ⟨g2, j * 5 + 2 + 2, none⟩ (.slice A7 tt.f2.length c7) = w8.setCells g2 (j * 5 + 2) [.int .i64 tt.f0, .int .i64 tt.f1, .slice A7 tt.f2.length c7] from rfl]
              have HFS := (HF8.out).stored (by rw [List.length_set]) (HRB.out).1 (HRB.out).2
              rw [HSX.out, HGX.out] at HFS
              have HFS := Aside0.mk HFS
              clear hx0 hy0 hz0 fx0 fy0 fz0 d1 d2 d3 HRB HF8 HR8 HC HFD HF2
              generalize (w8.setCells g2 (j * 5 + 2) [.int .i64 tt.f0, .int .i64 tt.f1, .slice A7 tt.f2.length c7]) = w9 at *
              have hb0 := (HFS.out).rt.cells.1.1
              obtain ⟨sr, hsr⟩ : ∃ sr : ByteArray, sr = ⟨r.toArray⟩ := ⟨_, rfl⟩
              rw [← hsr] at hb0
              have HSR := Aside0.mk (show sr.data.toList = r by rw [hsr])
              clear hsr
              cases q9 : sr.toList.isEmpty with
              | false =>
                have HNE := Aside0.mk (show r ≠ [] from fun e => by rw [Lib.toList_data, HSR.out, e] at q9; cases q9)
                have HX := Aside0.mk (getR3_bad HSZ.out (HVV.out.trans (by rw [HBO.out, HNX.out]; simp only [Option.bind_some]; rw [if_neg HNE.out]; rfl)))
                go_wp2
                exact get3_panic HX.out (HFS.out).g _ rfl rfl
              | true =>
                have HNE := Aside0.mk (show r = [] from by rw [Lib.toList_data, HSR.out] at q9; exact List.isEmpty_iff.1 q9)
                have HBN := Aside0.mk (show boAll (nmE (G.sy.map (·.f0))) (nmE (G.fs.map (·.f0))) G.fs G.bo = (boAll (nmE (G.sy.map (·.f0))) (nmE (G.fs.map (·.f0))) (G.fs.drop (j + 1)) (G.bo.drop (j + 1))).map ((dn ++ [⟨(G.fs.getD j z52).f0, (G.fs.getD j z52).f1, tt⟩]) ++ ·) from by
                  rw [HBO.out, HNX.out]
                  simp only [Option.bind_some]
                  rw [if_pos HNE.out, Option.map_map]
                  congr 1
                  funext l
                  simp)
                have HFT := HFS.out
                rw [HNE.out] at HFT
                have HFT := Aside0.mk HFT
                go_wp2
                go_roundg (G.bo.length - (j + 1))
                case measure => have := HLT.out; omega
                case rel => exact ⟨j + 1, dn ++ [⟨(G.fs.getD j z52).f0, (G.fs.getD j z52).f1, tt⟩], HLT.out, Nat.le_refl _, by rw [HKZ.out], ⟨by rw [List.length_append, HDN.out]; rfl⟩, HBN, HFT⟩
        · obtain rfl : j = G.bo.length := by omega
          have HVF := Aside0.mk (show getV3 t = some (G.sy, dn, G.large) from by rw [HVV.out, HBO.out, boAll_end HNB.out]; simp)
          have HF2 := HF.out
          rw [List.drop_eq_nil_of_le (show G.fs.length ≤ G.bo.length from Nat.le_of_eq HNB.out.symm), List.append_nil] at HF2
          have HF2 := Aside0.mk HF2
          clear HF HBO HVV HDN hlt hj hgg HBZ
          have HCK := Aside0.mk (scheme_calls G.sy dn A1 A2 c1 c2 wr (Kd.R_reads' (HF2.out).r1).2.2 (Kd.R_reads' (HF2.out).r2).2.2)
          obtain ⟨p0, p1, p3⟩ := (HF2.out).g.cells
          obtain ⟨f0, f1, f3⟩ := (HF2.out).g.frozen
          cases qL : G.large with
          | true =>
            have HRR := Aside0.mk (show getR3 t = (7, [], []) by unfold getR3; rw [if_neg (by have := HSZ.out; omega), HVF.out]; simp only; rw [if_pos (.inl qL)])
            have HFI := Aside0.mk ((HF2.out).fin (.slice none 0 0) (.slice none 0 0) (.int .i64 7))
            go_wp2
            obtain ⟨_, k1, k2, k3⟩ := HFI.out
            exact get3_done (A1 := none) (A2 := none) (c1 := 0) (c2 := 0) (sy := []) (fs := []) HRR.out k1 k2 k3 ⟨rfl, by simp, fun h => absurd h (by simp)⟩ (Nat.le_refl _) ⟨rfl, by simp, fun h => absurd h (by simp)⟩ (Nat.le_refl _) _ rfl rfl
          | false =>
            by_cases hz : schV G.sy dn = 0
            · rw [hz] at HCK
              have HRR := Aside0.mk (show getR3 t = (0, G.sy, dn) by unfold getR3; rw [if_neg (by have := HSZ.out; omega), HVF.out]; simp only; rw [if_neg (by rw [qL, hz]; simp)])
              clear hz
              go_wp2_with fail
              refine (HCK.out).mono ?_
              rintro E w6 ⟨rfl, hb⟩
              have HF3 := Aside0.mk ((HF2.out).below hb)
              clear hb p0 p1 p3 f0 f1 f3 HF2 HCK
              obtain ⟨p0, p1, p3⟩ := (HF3.out).g.cells
              obtain ⟨f0, f1, f3⟩ := (HF3.out).g.frozen
              have HFI := Aside0.mk ((HF3.out).fin (.slice A1 G.sy.length c1) (.slice A2 dn.length c2) (.int .i64 0))
              go_wp2
              obtain ⟨⟨k4, k5, k6, k7⟩, k1, k2, k3⟩ := HFI.out
              exact get3_done HRR.out k1 k2 k3 k4 k5 k6 k7 _ rfl rfl
            · have hsv : schV G.sy dn = 7 := by
                cases q : schB G.sy dn with
                | true => exact absurd (schV_good q) hz
                | false => exact schV_bad q
              rw [hsv] at HCK
              have HRR := Aside0.mk (show getR3 t = (7, [], []) by unfold getR3; rw [if_neg (by have := HSZ.out; omega), HVF.out]; simp only; rw [if_pos (.inr hz)])
              clear hz hsv
              go_wp2_with fail
              refine (HCK.out).mono ?_
              rintro E w6 ⟨rfl, hb⟩
              have HF3 := Aside0.mk ((HF2.out).below hb)
              clear hb p0 p1 p3 f0 f1 f3 HF2 HCK
              obtain ⟨p0, p1, p3⟩ := (HF3.out).g.cells
              obtain ⟨f0, f1, f3⟩ := (HF3.out).g.frozen
              have HFI := Aside0.mk ((HF3.out).fin (.slice none 0 0) (.slice none 0 0) (.int .i64 7))
              go_wp2
              obtain ⟨_, k1, k2, k3⟩ := HFI.out
              exact get3_done (A1 := none) (A2 := none) (c1 := 0) (c2 := 0) (sy := []) (fs := []) HRR.out k1 k2 k3 ⟨rfl, by simp, fun h => absurd h (by simp)⟩ (Nat.le_refl _) ⟨rfl, by simp, fun h => absurd h (by simp)⟩ (Nat.le_refl _) _ rfl rfl
end Go.Proofs.YthflpbgloeimfaaGreatDoor.H
namespace Go.Proofs.YthflpbgloeimfaaGreatDoor.H
open Go.RowKit Go.Proofs.YthflpbgloeimfaaGreatDoorW.PrintWords Go.Proofs.YthflpbgloeimfaaGreatDoorW.PrintLast Go.Proofs.YthflpbgloeimfaaGreatDoorW.PrintMore
open Go.Proofs.YthflpbgloeimfaaGreatDoor.Q (S47 k47 rd_T47 z47 at_T47 S50 k50 rd_T50 z50 at_T50 S52 k52 rd_T52 at_T52 z52 S71 k71 rd_T71 at_T71)
set_option linter.unusedVariables false
set_option linter.unusedSimpArgs false
theorem flatMap_len {α : Type} {f : α → List UInt8} {c : Nat} (l : List α) (h : ∀ x ∈ l, (f x).length ≤ c) : (l.flatMap f).length ≤ l.length * c := by
  induction l with
  | nil => simp
  | cons a r ih =>
    rw [List.flatMap_cons, List.length_append, List.length_cons, Nat.succ_mul]
    have := h a (List.mem_cons_self ..)
    have := ih (fun x hx => h x (List.mem_cons_of_mem _ hx))
    omega
theorem flatMap_drop {α : Type} {g : α → List UInt8} {l : List α} {i : Nat} (h : i < l.length) : (l.drop i).flatMap g = g l[i] ++ (l.drop (i + 1)).flatMap g := by
  rw [dropS h, List.flatMap_cons]
structure ScOk (sy : List S71) (fs : List S52) : Prop where
  ny : sy.length ≤ 24
  nf : fs.length ≤ 64
  sym : ∀ x ∈ sy, x.f0.size ≤ 24 ∧ 0 ≤ x.f1 ∧ x.f1 ≤ 4
  fnm : ∀ f ∈ fs, f.f0.size ≤ 24
  srt : ∀ f ∈ fs, srtB f.f1 = true ∧ f.f1.f0.length ≤ 60
  bod : ∀ f ∈ fs, tN f.f2 ≤ 400 ∧ tIn sy.length fs.length f.f1.f0.length f.f2
theorem scOk {sy : List S71} {fs : List S52} (h : schB sy fs = true) : ScOk sy fs := by
  obtain ⟨⟨h1, h2, h3⟩, h4, h5, h6, h7⟩ := schB_parts h
  refine ⟨(symsB_len h1).1, h3, fun x hx => ?_, fun f hf => ?_, fun f hf => ?_, fun f hf => ?_⟩
  · have h8 := (symsB_len h1).2 x hx
    unfold symOk at h8
    simp only [Bool.and_eq_true, decide_eq_true_eq] at h8
    exact ⟨nameB_size h8.1.1, h8.1.2, h8.2⟩
  · have h8 := h5 f hf
    unfold headOk at h8
    rw [Bool.and_eq_true] at h8
    exact nameB_size h8.1
  · have h8 := headOk_srt (h5 f hf)
    refine ⟨h8, ?_⟩
    have h9 := srtB_N h8
    obtain ⟨n, ⟨l⟩, b⟩ := f
    simp only at h9 ⊢
    rw [sN] at h9
    have := sLen_le (l := l)
    omega
  · have h8 := h7 f hf
    unfold bodyOk endO at h8
    simp only [Bool.and_eq_true, decide_eq_true_eq] at h8
    refine ⟨h8.1.1, ?_⟩
    cases e : ofV sy (fs.map (·.f1)) f.f1.f0 f.f2 with
    | none => rw [e] at h8; exact absurd h8.2.1 (by simp)
    | some x => have := ofV_in e; rwa [List.length_map] at this
theorem symL_len {sy : List S71} {fs : List S52} (h : ScOk sy fs) {x : S71} (hx : x ∈ sy) : (symL x).length ≤ 40 := by
  have := h.sym x hx
  have h2 := dg_len (n := x.f1.toNat) (by omega)
  rw [Lib.size_eq] at this
  unfold symL
  simp only [List.length_append, List.length_cons, List.length_nil]
  omega
theorem funL_len {sy : List S71} {fs : List S52} (h : ScOk sy fs) {f : S52} (hf : f ∈ fs) : (funL sy fs f).length ≤ 12500 := by
  have h1 := h.fnm f hf
  rw [Lib.size_eq] at h1
  have h2 := srtS_len f.f1
  have h3 := srtB_N (h.srt f hf).1
  have h4 := trmS_len (sy := sy) (fs := fs) (fun x hx => (h.sym x hx).1) h.fnm (np := f.f1.f0.length) (by have := (h.srt f hf).2; omega) _ f.f2 (Nat.le_refl _) (h.bod f hf).2
  have h5 := (h.bod f hf).1
  unfold funL
  simp only [List.length_append, List.length_cons, List.length_nil]
  omega
theorem putL_len {sy : List S71} {fs : List S52} (h : ScOk sy fs) : (putL sy fs).length ≤ 1000000 := by
  have h1 := flatMap_len (f := symL) (c := 40) sy (fun x hx => symL_len h hx)
  have h2 := flatMap_len (f := funL sy fs) (c := 12500) fs (fun f hf => funL_len h hf)
  have := h.ny; have := h.nf
  unfold putL
  rw [List.length_append]
  omega
structure PX (w : World) (b : Nat) (s1 s2 : Value) (acc : List UInt8) (W : World) : Prop where
  hb : Below w.heap.size w W
  box : W.heap[w.heap.size]? = some (.cells #[s1, s2] 25 (0, 0))
  hlt : w.heap.size < b
  bb : BB b b acc W
  hbw : b < W.heap.size
theorem PX.write {w W W1 : World} {b : Nat} {s1 s2 : Value} {acc acc1 : List UInt8} (h : PX w b s1 s2 acc W) (hw : WrE b acc1 W W1) : PX w b s1 s2 acc1 W1 :=
  ⟨Below.trans h.hb (Below.mono hw.2.1 (Nat.le_of_lt h.hlt)), (hw.2.1.block _ h.hlt).trans h.box, h.hlt, hw.1, Nat.lt_of_lt_of_le h.hbw hw.2.2.size⟩
theorem PX.below {w W W1 : World} {b : Nat} {s1 s2 : Value} {acc : List UInt8} (h : PX w b s1 s2 acc W) (hb : Below W.heap.size W W1) : PX w b s1 s2 acc W1 :=
  ⟨below_then h.hb h.hb.size hb, blk_below h.box hb, h.hlt, bb_below h.bb hb, Nat.lt_of_lt_of_le h.hbw hb.size⟩
theorem px_start (w W : World) (s1 s2 : Value) (hb : Below w.heap.size w W) (box : W.heap[w.heap.size]? = some (.cells #[s1, s2] 25 (0, 0))) :
    PX w W.heap.size s1 s2 [] (W.alloc (.cells #[.pointer none, .slice none 0 0] 69)) :=
  ⟨hb.alloc hb.size _, blk_alloc box _, blk_lt box, bb_new W, by simp⟩
theorem PX.cells {w : World} {b : Nat} {s1 s2 : Value} {acc : List UInt8} {W : World} (h : PX w b s1 s2 acc W) : W.cell? ⟨w.heap.size, 0, none⟩ = some s1 ∧ W.cell? ⟨w.heap.size, 1, none⟩ = some s2 := ⟨(blk_cell h.box 0).trans rfl, (blk_cell h.box 1).trans rfl⟩
def PutE (v : List UInt8 × Int) (w : World) (e : Ending) (w' : World) : Prop := e = .returned (.tuple #[.string ⟨v.1.toArray⟩, .int .i64 v.2]) ∧ Below w.heap.size w w'
set_option maxHeartbeats 16000000 in
set_option maxRecDepth 100000 in
theorem put_calls (sy : List S71) (fs : List S52) (A1 A2 : Option Addr) (c1 c2 : Nat) (w : World) (hS : Kd.C k71 w A1 sy.length sy) (hF : Kd.C k52 w A2 fs.length fs) :
    Calls Tryz.prog 17 #[.agg #[.slice A1 sy.length c1, .slice A2 fs.length c2]] w (PutE (putV sy fs) w) := by
  have HS := Aside0.mk hS
  have HF := Aside0.mk hF
  have HP := Aside0.mk (CB.mk (below_alloc (Below.refl w.heap.size w) (.cells #[.slice A1 sy.length c1, .slice A2 fs.length c2] 25)) (blk_new w (.cells #[.slice A1 sy.length c1, .slice A2 fs.length c2] 25)))
  have HCK := Aside0.mk (fun (W : World) (hW : Below w.heap.size w W) => scheme_calls sy fs A1 A2 c1 c2 W (Kd.C_below hS hW) (Kd.C_below hF hW))
  clear hS hF
  go_enter Tryz.func17, Tryz.ntmps17
  go_upto_region 1 with (fail)
  generalize w.alloc (.cells #[.slice A1 sy.length c1, .slice A2 fs.length c2] 25) = W1 at *
  obtain ⟨p0, p1⟩ := (HP.out).cells
  go_wp2_with fail
  refine (HCK.out W1 (HP.out).hb).mono ?_
  rintro E w2 ⟨rfl, hb⟩
  have HP2 := Aside0.mk ((HP.out).below hb)
  clear hb p0 p1 HP HCK
  cases q : schB sy fs with
  | false =>
    have HV := Aside0.mk (show putV sy fs = ([], 7) by unfold putV; rw [q]; rfl)
    rw [schV_bad q]
    clear q
    go_wp2
    go_ret2
    exact ⟨by rw [HV.out]; rfl, (HP2.out).hb⟩
  | true =>
  have HPV := Aside0.mk (show putV sy fs = if 65536 < (putL sy fs).length then ([], 3) else (putL sy fs, 0) by unfold putV; rw [q]; rfl)
  have HOK := Aside0.mk (scOk q)
  have HLN := Aside0.mk (putL_len (scOk q))
  rw [schV_good q]
  clear q
  have HX := Aside0.mk (px_start w w2 _ _ (HP2.out).hb (HP2.out).h0)
  go_upto_region 5 with (fail)
  generalize w2.alloc (.cells #[.pointer none, .slice none 0 0] 69) = w3 at *
  generalize w2.heap.size = b at *
  obtain ⟨p0, p1⟩ := (HX.out).cells
  go_wp2
  clear p0 p1 HP2
  go_loopg [20] sy.length (fun gg v20 wi => ∃ (j : Nat) (acc : List UInt8), j ≤ sy.length ∧ sy.length - j ≤ gg ∧ v20 = .int .i64 j ∧ Aside0 (PX w b (.slice A1 sy.length c1) (.slice A2 fs.length c2) acc wi) ∧ Aside0 (acc ++ ((sy.drop j).flatMap symL ++ fs.flatMap (funL sy fs)) = putL sy fs))
  case atStart => exact ⟨0, [], by omega, by omega, rfl, HX, ⟨rfl⟩⟩
  case round =>
    clear HX
    obtain ⟨j, acc, hj, hgg, rfl, HX, HA⟩ := hrel
    by_cases hlt : j < sy.length
    · have hltz : (j : Int) < (sy.length : Int) := by omega
      obtain ⟨ad, e, hx0, hx1⟩ := at_T71 HS.out (j : Int) (by omega) hltz
      subst e
      rw [rdY_at hlt] at hx0 hx1
      rw [Int.toNat_natCast] at hx0 hx1
      replace hx0 := ((HX.out).hb.cell (World.block_lt_of_cell? w _ hx0)).trans hx0
      replace hx1 := ((HX.out).hb.cell (World.block_lt_of_cell? w _ hx1)).trans hx1
      have HFD := Aside0.mk (flatMap_drop (g := symL) hlt)
      have HSM := Aside0.mk ((HOK.out).sym _ (List.getElem_mem hlt))
      generalize sy[j] = u at *
      go_upto_region 8 with (fail)
      have HX5 := Aside0.mk (blk_new wr (.cells #[.string u.f0, .int .i64 u.f1] 71))
      have HP5 := Aside0.mk ((HX.out).below (below_alloc (Below.refl wr.heap.size wr) (.cells #[.string u.f0, .int .i64 u.f1] 71)))
      clear hx0 hx1 HX
      generalize (wr.alloc (.cells #[.string u.f0, .int .i64 u.f1] 71)) = w5 at *
      generalize wr.heap.size = b7 at *
      have m0 : w5.cell? ⟨b7, 0, none⟩ = some (.string u.f0) := (blk_cell HX5.out 0).trans rfl
      have m1 : w5.cell? ⟨b7, 1, none⟩ = some (.int .i64 u.f1) := (blk_cell HX5.out 1).trans rfl
      have HI := Aside0.mk (fun W => itoa_calls u.f1 (HSM.out).2.1 (by have := (HSM.out).2.2; omega) W)
      have hsz : u.f0.size ≤ 24 := (HSM.out).1
      have hd : (dg u.f1.toNat).length ≤ 2 := dg_len (by have := (HSM.out).2.1; have := (HSM.out).2.2; omega)
      refine wp_region_still_tail 9 (by kernel_rfl) (by kernel_rfl) ?_
      simp only [List.take_succ_cons, List.take_zero, List.drop_succ_cons, List.drop_zero]
      repeat (refine wpStill_step (fun K hK => ?_); go_simp; (first | refine hK _ ?_ | (rw [if_neg (by omega)]; go_simp; refine hK _ ?_)); clear hK K)
      still_call (HI.out _)
      repeat (refine wpStill_step (fun K hK => ?_); go_simp; (first | refine hK _ ?_ | (rw [if_neg (by omega)]; go_simp; refine hK _ ?_)); clear hK K)
      refine wpStill_nil ?_
      change wpList _ _ _ _ _ w5.drew
      have HP6 := Aside0.mk ((HP5.out).below (below_drew (Below.refl _ _)))
      clear m0 m1 HP5 HI
      generalize w5.drew = w6 at *
      have HA6 := Aside0.mk (show (acc ++ symL u) ++ ((sy.drop (j + 1)).flatMap symL ++ fs.flatMap (funL sy fs)) = putL sy fs by rw [← HA.out, HFD.out]; simp)
      have HLA := Aside0.mk (show acc.length + (symL u).length ≤ 1000000 by
        have h1 := HLN.out
        rw [← HA6.out, List.length_append, List.length_append] at h1
        omega)
      have HWS := Aside0.mk (fun (s : ByteArray) (hs : s.data.toList = symL u) => ws_calls b acc s _ _ (HP6.out).bb hs (by have := HLA.out; omega) (Nat.le_of_lt (HP6.out).hbw))
      go_wp2_with fail
      refine ((HWS.out) _ ?_).mono ?_
      · first | rfl | (unfold symL; simp; done) | (unfold symL; simp; rfl)
      rintro E w7 ⟨rfl, hw⟩
      have HP7 := Aside0.mk ((HP6.out).write hw)
      clear hw HWS HLA hd hsz
      go_wp2
      go_roundg (sy.length - (j + 1))
      case measure => omega
      case rel => exact ⟨j + 1, acc ++ symL u, by omega, by omega, by first | rfl | (rw [wrap_succ (by omega) (by have := (HOK.out).ny; omega)]; rfl), HP7, HA6⟩
    · have hltz : ¬ (j : Int) < (sy.length : Int) := by omega
      have hje : j = sy.length := by omega
      subst hje
      have HA2 := Aside0.mk (show acc ++ fs.flatMap (funL sy fs) = putL sy fs by rw [← HA.out, List.drop_length]; rfl)
      obtain ⟨p0, p1⟩ := (HX.out).cells
      go_wp2
      clear p0 p1 HA
      go_loopg [38] fs.length (fun gg v38 wi => ∃ (j : Nat) (acc : List UInt8), j ≤ fs.length ∧ fs.length - j ≤ gg ∧ v38 = .int .i64 j ∧ Aside0 (PX w b (.slice A1 sy.length c1) (.slice A2 fs.length c2) acc wi) ∧ Aside0 (acc ++ (fs.drop j).flatMap (funL sy fs) = putL sy fs))
      case atStart => exact ⟨0, acc, by omega, by omega, rfl, HX, HA2⟩
      case round =>
        clear HX HA2
        obtain ⟨j, acc, hj, hgg, rfl, HX, HA⟩ := hrel
        by_cases hlt : j < fs.length
        · have hltz : (j : Int) < (fs.length : Int) := by omega
          obtain ⟨ad, As, cs, At, ct, e, hx0, hx1, hx2, hx3, hx4, hls, hCs, hlt4, hCt⟩ := at_T52 HF.out (j : Int) (by omega) hltz
          subst e
          rw [rdF_at hlt] at hx0 hx1 hx2 hx3 hx4 hls hCs hlt4 hCt
          rw [Int.toNat_natCast] at hx0 hx1 hx2 hx3 hx4
          replace hx0 := ((HX.out).hb.cell (World.block_lt_of_cell? w _ hx0)).trans hx0
          replace hx1 := ((HX.out).hb.cell (World.block_lt_of_cell? w _ hx1)).trans hx1
          replace hx2 := ((HX.out).hb.cell (World.block_lt_of_cell? w _ hx2)).trans hx2
          replace hx3 := ((HX.out).hb.cell (World.block_lt_of_cell? w _ hx3)).trans hx3
          replace hx4 := ((HX.out).hb.cell (World.block_lt_of_cell? w _ hx4)).trans hx4
          have HFD := Aside0.mk (flatMap_drop (g := funL sy fs) hlt)
          have HFN := Aside0.mk ((HOK.out).fnm _ (List.getElem_mem hlt))
          have HFS := Aside0.mk ((HOK.out).srt _ (List.getElem_mem hlt))
          have HFB := Aside0.mk ((HOK.out).bod _ (List.getElem_mem hlt))
          have HCs := Aside0.mk hCs
          have HLs := Aside0.mk hls
          have HCt := Aside0.mk hCt
          have HLt := Aside0.mk hlt4
          clear hCs hls hlt4 hCt
          generalize fs[j] = f at *
          go_upto_region 13 with (fail)
          have HX5 := Aside0.mk (blk_new wr (.cells #[.string f.f0, .slice As f.f1.f0.length cs, .int .i64 f.f2.f0, .int .i64 f.f2.f1, .slice At f.f2.f2.length ct] 52))
          have HP5 := Aside0.mk ((HX.out).below (below_alloc (Below.refl _ _) (.cells #[.string f.f0, .slice As f.f1.f0.length cs, .int .i64 f.f2.f0, .int .i64 f.f2.f1, .slice At f.f2.f2.length ct] 52)))
          have HNB := Aside0.mk (show wr.heap.size ≠ b from by have := (HX.out).hbw; omega)
          clear hx0 hx1 hx2 hx3 hx4 HX
          generalize (wr.alloc (.cells #[.string f.f0, .slice As f.f1.f0.length cs, .int .i64 f.f2.f0, .int .i64 f.f2.f1, .slice At f.f2.f2.length ct] 52)) = w5 at *
          generalize wr.heap.size = b7 at *
          have HKX := Aside0.mk (fun (W3 : World) (h : W3.heap[b7]? = some (.cells #[.string f.f0, .slice As f.f1.f0.length cs, .int .i64 f.f2.f0, .int .i64 f.f2.f1, .slice At f.f2.f2.length ct] 52 (0, 0))) => (show W3.cell? ⟨b7, 0, none⟩ = some (.string f.f0) ∧ W3.cell? ⟨b7, 1, none⟩ = some (.slice As f.f1.f0.length cs) ∧ W3.cell? ⟨b7, 2, none⟩ = some (.int .i64 f.f2.f0) ∧ W3.cell? ⟨b7, 3, none⟩ = some (.int .i64 f.f2.f1) ∧ W3.cell? ⟨b7, 4, none⟩ = some (.slice At f.f2.f2.length ct) from
            ⟨(blk_cell h 0).trans rfl, (blk_cell h 1).trans rfl, (blk_cell h 2).trans rfl, (blk_cell h 3).trans rfl, (blk_cell h 4).trans rfl⟩))
          obtain ⟨m0, m1, m2, m3, m4⟩ := HKX.out _ HX5.out
          have HSP := Aside0.mk (sput_calls f.f1 As cs w5 (Kd.C_below HCs.out (HP5.out).hb) HLs.out)
          rw [show sputV f.f1 = (srtS f.f1, 0) by unfold sputV; rw [(HFS.out).1]; rfl] at HSP
          have hsl : (srtS f.f1).length ≤ 360 := by have := srtS_len f.f1; have := srtB_N (HFS.out).1; omega
          have hsz : f.f0.size ≤ 24 := HFN.out
          go_wp2_with fail
          refine (HSP.out).mono ?_
          rintro E w6 ⟨rfl, hb⟩
          have HP6 := Aside0.mk ((HP5.out).below hb)
          have HX6 := Aside0.mk (blk_below HX5.out hb)
          clear hb m0 m1 m2 m3 m4 HP5 HX5 HSP
          obtain ⟨m0, m1, m2, m3, m4⟩ := HKX.out _ HX6.out
          have HA6 := Aside0.mk (show (acc ++ funL sy fs f) ++ (fs.drop (j + 1)).flatMap (funL sy fs) = putL sy fs by rw [← HA.out, HFD.out]; simp)
          have HLA := Aside0.mk (show acc.length + (funL sy fs f).length ≤ 1000000 by
            have h1 := HLN.out
            rw [← HA6.out, List.length_append, List.length_append] at h1
            omega)
          have HFL := Aside0.mk (show (funL sy fs f).length = 11 + f.f0.data.toList.length + (srtS f.f1).length + (trmS (hdS sy fs) f.f2).length from by unfold funL; simp only [List.length_append, List.length_cons, List.length_nil]; omega)
          have HWS := Aside0.mk (fun (s : ByteArray) (hs : s.data.toList = [102, 117, 110, 32] ++ (f.f0.data.toList ++ ([32, 58, 32] ++ (srtS f.f1 ++ [32, 61, 32])))) => ws_calls b acc s _ w6 (HP6.out).bb hs (by have := HLA.out; have := HFL.out; simp only [List.length_append, List.length_cons, List.length_nil]; omega) (Nat.le_of_lt (HP6.out).hbw))
          go_wp2_with fail
          refine ((HWS.out) _ ?_).mono ?_
          · first | rfl | (simp; done) | (simp; rfl)
          rintro E w7 ⟨rfl, hw⟩
          have HP7 := Aside0.mk ((HP6.out).write hw)
          have HX7 := Aside0.mk (hw.2.2.keep _ _ _ HNB.out (by decide) HX6.out)
          clear hw m0 m1 m2 m3 m4 HP6 HX6 HWS hsl hsz
          obtain ⟨m0, m1, m2, m3, m4⟩ := HKX.out _ HX7.out
          obtain ⟨p0, p1⟩ := (HP7.out).cells
          have HTW := Aside0.mk (twrite_calls sy fs A1 (some ad) c1 c2 f.f1.f0.length w HS.out HF.out (fun x hx => ((HOK.out).sym x hx).1) (HOK.out).fnm (by have := (HFS.out).2; omega) b (Nat.le_of_lt (HP7.out).hlt) 400 f.f2 (HFB.out).1 (by omega) (HFB.out).2 At ct (acc ++ ([102, 117, 110, 32] ++ (f.f0.data.toList ++ ([32, 58, 32] ++ (srtS f.f1 ++ [32, 61, 32]))))) w7 HCt.out HLt.out (HP7.out).hb (HP7.out).bb (HP7.out).hbw (by
            have := HLA.out; have := HFL.out; have := (HFB.out).1
            rw [List.length_append]
            simp only [List.length_append, List.length_cons, List.length_nil]
            omega))
          go_wp2_with fail
          refine (HTW.out).mono ?_
          rintro E w8 ⟨rfl, hw⟩
          have HP8 := Aside0.mk ((HP7.out).write hw)
          clear hw m0 m1 m2 m3 m4 p0 p1 HP7 HX7 HTW
          have HW10 := Aside0.mk (wb10 b _ w8 (HP8.out).bb (by
            have := HLA.out; have := HFL.out
            simp only [List.length_append, List.length_cons, List.length_nil]
            omega) (Nat.le_of_lt (HP8.out).hbw))
          go_wp2_with fail
          refine (HW10.out).mono ?_
          rintro E w9 ⟨rfl, hw⟩
          have HP9 := Aside0.mk ((HP8.out).write hw)
          have HFE := Aside0.mk (show acc ++ ([102, 117, 110, 32] ++ (f.f0.data.toList ++ ([32, 58, 32] ++ (srtS f.f1 ++ [32, 61, 32])))) ++ trmS (hdS sy fs) f.f2 ++ [10] = acc ++ funL sy fs f by unfold funL; simp)
          rw [HFE.out] at HP9
          clear hw HP8 HW10 HLA
          go_wp2
          go_roundg (fs.length - (j + 1))
          case measure => omega
          case rel => exact ⟨j + 1, acc ++ funL sy fs f, by omega, by omega, by first | rfl | (rw [wrap_succ (by omega) (by have := (HOK.out).nf; omega)]; rfl), HP9, HA6⟩
        · have hltz : ¬ (j : Int) < (fs.length : Int) := by omega
          have hje : j = fs.length := by omega
          subst hje
          have HACC := Aside0.mk (show acc = putL sy fs by rw [← HA.out, List.drop_length]; simp)
          have HLEN := Aside0.mk (show Calls Tryz.prog 49 #[.pointer (some ⟨b, 0, none⟩)] wr fun e w' => e = .returned (.int .i64 (acc.length : Int)) ∧ w' = wr from by
            have h := Tryz.Builder_Len b b (Lib.byteCells acc) wr (HX.out).bb
            rw [byteCells_len] at h
            exact h)
          have HSTR := Aside0.mk (Tryz.Builder_String_any b b acc wr (HX.out).bb (Nat.le_of_lt (HX.out).hbw))
          rw [← HACC.out] at HPV
          clear HA hj hgg hlt
          go_wp2_with fail
          refine (HLEN.out).mono ?_
          rintro E W0 ⟨rfl, rfl⟩
          cases q1 : decide ((acc.length : Int) > 65536) with
          | true =>
            have HP := Aside0.mk (show putV sy fs = ([], 3) by rw [HPV.out, if_pos (by have := of_decide_eq_true q1; omega)])
            go_wp2
            go_ret2
            exact ⟨by rw [HP.out]; rfl, (HX.out).hb⟩
          | false =>
            have HP := Aside0.mk (show putV sy fs = (acc, 0) by rw [HPV.out, if_neg (by have := of_decide_eq_false q1; omega)])
            go_wp2_with fail
            refine (HSTR.out).mono ?_
            rintro E W9 ⟨rfl, hb⟩
            have HB9 := Aside0.mk (Below.trans (HX.out).hb (Below.mono hb (Nat.le_of_lt (HX.out).hlt)))
            clear hb
            go_wp2
            go_ret2
            exact ⟨by rw [HP.out]; rfl, HB9.out⟩
end Go.Proofs.YthflpbgloeimfaaGreatDoor.H
namespace Go.Proofs.YthflpbgloeimfaaGreatDoor.H
open Go.RowKit Go.Proofs.YthflpbgloeimfaaGreatDoorW.PrintWords Go.Proofs.YthflpbgloeimfaaGreatDoorW.PrintLast Go.Proofs.YthflpbgloeimfaaGreatDoorW.PrintMore
open Go.Proofs.YthflpbgloeimfaaGreatDoor.Q (S47 k47 rd_T47 z47 at_T47 S50 k50 rd_T50 z50 at_T50 S52 k52 rd_T52 at_T52 z52 S71 k71 rd_T71 at_T71)
set_option linter.unusedVariables false
set_option linter.unusedSimpArgs false
def exL : List UInt8 := [115, 121, 109, 98, 111, 108, 32, 97, 32, 50, 10, 115, 121, 109, 98, 111, 108, 32, 98, 32, 49, 10, 115, 121, 109, 98, 111, 108, 32, 99, 32, 48, 10, 102, 117, 110, 32, 115, 32, 58, 32, 111, 32, 61, 32, 102, 32, 35, 99, 10, 102, 117, 110, 32, 102, 32, 58, 32, 111, 32, 62, 32, 111, 32, 61, 32, 35, 97, 32, 36, 48, 32, 40, 102, 32, 40, 35, 98, 32, 36, 48, 41, 41, 10]
def sy0 : List S71 := [⟨⟨#[97]⟩, 2⟩, ⟨⟨#[98]⟩, 1⟩, ⟨⟨#[99]⟩, 0⟩]
def fs0 : List S52 := [⟨⟨#[115]⟩, ⟨[]⟩, ⟨1, 1, [⟨2, 2, []⟩]⟩⟩, ⟨⟨#[102]⟩, ⟨[⟨[]⟩]⟩, ⟨2, 0, [⟨0, 0, []⟩, ⟨1, 1, [⟨2, 1, [⟨0, 0, []⟩]⟩]⟩]⟩⟩]
theorem ex_get : getR3 ⟨exL.toArray⟩ = (0, sy0, fs0) := by kernel_rfl
theorem ex_put : putV sy0 fs0 = (exL, 0) := by kernel_rfl
theorem ex_ord : ordV sy0 fs0 = (1, 0) := by kernel_rfl
theorem ex_sch : schV sy0 fs0 = 0 := by kernel_rfl
theorem get0_calls (w : World) (hm : MX w) : Calls Tryz.prog 19 #[.string ⟨exL.toArray⟩] w fun E w' => ∃ A1 c1 A2 c2, E = .returned (.tuple #[.agg #[.slice A1 sy0.length c1, .slice A2 fs0.length c2], .int .i64 0]) ∧ Kd.C k71 w' A1 sy0.length sy0 ∧ Kd.C k52 w' A2 fs0.length fs0 ∧ Below w.heap.size w w' := by
  refine (get3_calls ⟨exL.toArray⟩ w hm).mono ?_
  intro E w' h
  unfold GetE3 at h
  rw [ex_get] at h
  obtain ⟨A1, c1, A2, c2, rfl, h1, h2, h3, h4, h5⟩ := h
  exact ⟨A1, c1, A2, c2, rfl, h1, h3, h5⟩
theorem put0_calls (A1 : Option Addr) (c1 : Nat) (A2 : Option Addr) (c2 : Nat) (w : World) (hS : Kd.C k71 w A1 sy0.length sy0) (hF : Kd.C k52 w A2 fs0.length fs0) :
    Calls Tryz.prog 17 #[.agg #[.slice A1 sy0.length c1, .slice A2 fs0.length c2]] w fun E w' => E = .returned (.tuple #[.string ⟨exL.toArray⟩, .int .i64 0]) ∧ Below w.heap.size w w' := by
  refine (put_calls sy0 fs0 A1 A2 c1 c2 w hS hF).mono ?_
  intro E w' h
  unfold PutE at h
  rw [ex_put] at h
  exact h
theorem ord0_calls (A1 : Option Addr) (c1 : Nat) (A2 : Option Addr) (c2 : Nat) (w : World) (hS : Kd.C k71 w A1 sy0.length sy0) (hF : Kd.C k52 w A2 fs0.length fs0) :
    Calls Tryz.prog 24 #[.agg #[.slice A1 sy0.length c1, .slice A2 fs0.length c2]] w fun E w' => E = .returned (.tuple #[.int .i64 1, .int .i64 0]) ∧ Below w.heap.size w w' := by
  have h := sorderS_calls sy0 fs0 A1 A2 c1 c2 w hS hF
  rw [ex_ord] at h
  exact h
theorem sch0_calls (A1 : Option Addr) (c1 : Nat) (A2 : Option Addr) (c2 : Nat) (w : World) (hS : Kd.C k71 w A1 sy0.length sy0) (hF : Kd.C k52 w A2 fs0.length fs0) :
    Calls Tryz.prog 14 #[.agg #[.slice A1 sy0.length c1, .slice A2 fs0.length c2]] w fun E w' => E = .returned (.int .i64 0) ∧ Below w.heap.size w w' := by
  have h := scheme_calls sy0 fs0 A1 A2 c1 c2 w hS hF
  rw [ex_sch] at h
  exact h
theorem sy0_len : sy0.length = 3 := rfl
theorem fs0_len : fs0.length = 2 := rfl
theorem exL_list : (⟨exL.toArray⟩ : ByteArray).toList = exL := by rw [Lib.toList_data]
set_option maxHeartbeats 16000000 in
set_option maxRecDepth 100000 in
theorem alive_calls (w : World) (hm : MX w) : Calls Tryz.prog 16 #[] w fun E w' => E = .returned (.bool true) ∧ Below w.heap.size w w' := by
  have HG := Aside0.mk (get0_calls w hm)
  have HEL := Aside0.mk exL_list
  unfold exL at HG HEL
  rw [sy0_len, fs0_len] at HG
  clear hm
  go_enter Tryz.func16, Tryz.ntmps16
  go_wp2_with fail
  refine (HG.out).mono ?_
  rintro E w1 ⟨A1, c1, A2, c2, rfl, h1, h2, hb⟩
  have hba := below_alloc (Below.refl w1.heap.size w1) (.cells #[.slice A1 3 c1, .slice A2 2 c2] 25)
  have HB2 := Aside0.mk (below_then hb hb.size hba)
  have HX2 := Aside0.mk (blk_new w1 (.cells #[.slice A1 3 c1, .slice A2 2 c2] 25))
  have HS2 := Aside0.mk (Kd.C_below h1 hba)
  have HF2 := Aside0.mk (Kd.C_below h2 hba)
  clear h1 h2 hb hba HG
  go_upto_region 2 with (fail)
  generalize w1.alloc (.cells #[.slice A1 3 c1, .slice A2 2 c2] 25) = w2 at *
  generalize w1.heap.size = b1 at *
  have HK := Aside0.mk (fun (W : World) (hW : Below w2.heap.size w2 W) => (show W.cell? ⟨b1, 0, none⟩ = some (.slice A1 3 c1) ∧ W.cell? ⟨b1, 1, none⟩ = some (.slice A2 2 c2) from ⟨(blk_cell (blk_below HX2.out hW) 0).trans rfl, (blk_cell (blk_below HX2.out hW) 1).trans rfl⟩))
  have HP := Aside0.mk (put0_calls A1 c1 A2 c2 w2 HS2.out HF2.out)
  have HO := Aside0.mk (fun (W : World) (hW : Below w2.heap.size w2 W) => ord0_calls A1 c1 A2 c2 W (Kd.C_below HS2.out hW) (Kd.C_below HF2.out hW))
  have HC := Aside0.mk (fun (W : World) (hW : Below w2.heap.size w2 W) => sch0_calls A1 c1 A2 c2 W (Kd.C_below HS2.out hW) (Kd.C_below HF2.out hW))
  unfold exL at HP
  rw [sy0_len, fs0_len] at HP HO HC
  clear HS2 HF2 HX2
  obtain ⟨k0, k1⟩ := HK.out _ (Below.refl _ _)
  go_wp2_with fail
  refine (HP.out).mono ?_
  rintro E w3 ⟨rfl, hb⟩
  have HB3 := Aside0.mk hb
  clear hb k0 k1 HP
  obtain ⟨k0, k1⟩ := HK.out _ HB3.out
  go_wp2_with fail
  refine (HO.out _ HB3.out).mono ?_
  rintro E w4 ⟨rfl, hb⟩
  have HB4 := Aside0.mk (below_then HB3.out (HB3.out).size hb)
  clear hb k0 k1 HB3 HO
  obtain ⟨k0, k1⟩ := HK.out _ HB4.out
  go_wp2_with fail
  refine (HC.out _ HB4.out).mono ?_
  rintro E w5 ⟨rfl, hb⟩
  have HB5 := Aside0.mk (below_then HB4.out (HB4.out).size hb)
  clear hb k0 k1
  go_wp2
  go_ret
  exact ⟨rfl, below_then HB2.out (HB2.out).size HB5.out⟩
end Go.Proofs.YthflpbgloeimfaaGreatDoor.H
namespace Go.Proofs.YthflpbgloeimfaaGreatDoor.H
open Go.RowKit Go.Proofs.YthflpbgloeimfaaGreatDoorW.PrintWords Go.Proofs.YthflpbgloeimfaaGreatDoorW.PrintLast Go.Proofs.YthflpbgloeimfaaGreatDoorW.PrintMore
open Go.Proofs.YthflpbgloeimfaaGreatDoor.Q (S47 k47 rd_T47 z47 at_T47 S50 k50 rd_T50 z50 at_T50 S52 k52 rd_T52 at_T52 z52 S71 k71 rd_T71 at_T71)
set_option linter.unusedVariables false
set_option linter.unusedSimpArgs false
def tabT12 : Bool × List (List Nat × List Nat) := (true, [([], []), ([0], [0]), ([], []), ([2], [2]), ([], []), ([4], [4]), ([], []), ([6], [6]), ([], []), ([7, 8], [7, 8]), ([3, 5, 9], [3, 5, 9]), ([10], [10]), ([1, 11, 9], [1, 11]), ([0, 1, 2, 3, 4, 5, 6, 7, 8, 9, 10, 11, 12], []), ([13, 12, 12, 0, 1, 2, 3, 4, 5, 6, 7, 8, 9, 10, 11, 12], [12, 13])])
theorem tab12 : rtab .any (opsOf Tryz.f12 24) = tabT12 := by kernel_rfl
theorem bits12 : waitsOk tabT12.2 [0, 1, 0, 4, 0, 16, 0, 64, 0, 448, 1020, 2044, 4095, 8191, 16383] = true := by kernel_rfl
theorem ordL_le {us : List S52} {m : Nat} (h : ∀ f ∈ us, sO f.f1 ≤ m) : ordL us ≤ m := by
  induction us with
  | nil => rw [ordL]; omega
  | cons a r ih =>
    rw [ordL]
    have h1 := h a (List.mem_cons_self ..)
    have h2 := ih (fun f hf => h f (List.mem_cons_of_mem _ hf))
    omega
theorem ordL_mem {fs : List S52} {f : S52} (h : f ∈ fs) : sO f.f1 ≤ ordL fs := by
  induction fs with
  | nil => cases h
  | cons a r ih =>
    rw [ordL]
    rcases List.mem_cons.1 h with rfl | h
    · omega
    · have := ih h; omega
theorem keep_order {fs : List S52} {l tq : List Int} (hR : IsR fs l) : ordL (keepL fs tq l) ≤ ordL fs := by
  refine ordL_le fun f hf => ?_
  unfold keepL at hf
  obtain ⟨k, hk, rfl⟩ := List.mem_map.1 hf
  obtain ⟨j, rfl, hj, _⟩ := isR_mem hR hk
  unfold keep1
  rw [rdF_at hj]
  show sO fs[j].f1 ≤ ordL fs
  exact ordL_mem (List.getElem_mem hj)
theorem ordV_good {sy : List S71} {fs : List S52} (h : schB sy fs = true) : ordV sy fs = ((ordL fs : Int), 0) := by unfold ordV; rw [h]; rfl
def kE (w0 : World) : Kd S52 := Kd.iso (Kd.pair Kd.string (Kd.pair (Kd.fixed k47 w0) k50)) (fun x : S52 => (x.f0, x.f1, x.f2))
theorem kE_mk {w0 w : World} {base : Nat} {ok : Nat → Prop} {x : S52} {As : Option Addr} {cs : Nat} {v4 : Value} (h1 : x.f1.f0.length ≤ cs) (h2 : Kd.C k47 w0 As x.f1.f0.length x.f1.f0) (h3 : k50.R 50 w base ok v4 x.f2.f2) :
    (kE w0).M w base ok x [.string x.f0, .slice As x.f1.f0.length cs, .int .i64 x.f2.f0, .int .i64 x.f2.f1, v4] :=
  ⟨[.string x.f0], [.slice As x.f1.f0.length cs, .int .i64 x.f2.f0, .int .i64 x.f2.f1, v4], rfl, rfl, ⟨[.slice As x.f1.f0.length cs], [.int .i64 x.f2.f0, .int .i64 x.f2.f1, v4], rfl, Q.k47_mk w0 x.f1 h1 h2, Q.k50_mkM w base ok x.f2 h3⟩⟩
theorem kE_C {w0 w : World} {A : Option Addr} {n : Nat} {us : List S52} (h : Kd.C (kE w0) w A n us) (hb : Below w0.heap.size w0 w) : Kd.C k52 w A n us :=
  ReadsRow.imp_ h (Below.refl _ _) (fun x cs ⟨c0, c1, e, h0, c2, c3, e2, h47, h50⟩ => ⟨c0, c1, e, h0, c2, c3, e2, k47.K_below hb h47, h50⟩)
theorem mkI (n : Nat) (hn : n ≤ 1000) (W : World) : (Instr.makeSlice 39 (.int .i64 (n : Int)) (.int .i64 (n : Int))).run Tryz.prog W = .ok (.slice (some ⟨W.heap.size, 0, none⟩) n n) (W.alloc (.cells (madeCells #[.int .i64 0] n) 3)) := by
  obtain ⟨i, hi, hzz⟩ := Option.map_eq_some_iff.1 info3
  simp only [Prod.mk.injEq] at hzz
  obtain ⟨hz, hs, hb⟩ := hzz
  have hr := run_make (P := Tryz.prog) W 39 3 i (.int .i64 0) Tryz.underlying39 hi hz .i64 .i64 n n (by omega) (Int.le_refl _) (by rw [hb]; omega) (by omega)
  simp only [Int.toNat_natCast, hs, Nat.mul_one] at hr
  exact hr
theorem rd_set {T : List Int} {q : Nat} {v : Int} (hq : q < T.length) (k : Nat) : rd (T.set q v) (k : Int) = if k = q then v else rd T (k : Int) := by
  unfold rd
  rw [Int.toNat_natCast, List.getD_eq_getElem?_getD, List.getD_eq_getElem?_getD, List.getElem?_set]
  by_cases h : q = k
  · subst h; simp [hq]
  · rw [if_neg h, if_neg (fun e => h e.symm)]
structure LF (W2 W : World) (nb : Nat) (T : List Int) : Prop where
  hb : Below W2.heap.size W2 W
  hn : W.heap[nb]? = some (.cells (T.map (Value.int .i64)).toArray 3 (0, 0))
  le : W2.heap.size ≤ nb
section
variable {W2 W W1 : World} {nb : Nat} {T : List Int}
theorem LF.below (h : LF W2 W nb T) (hb : Below W.heap.size W W1) : LF W2 W1 nb T := ⟨below_then h.hb h.hb.size hb, blk_below h.hn hb, h.le⟩
theorem LF.grown (h : LF W2 W nb T) {row : Option Nat} (hb : Below W2.heap.size W2 W1) (hg : W.grownBy W1 row) (hne : ∀ k, row = some k → nb < k) : LF W2 W1 nb T := ⟨hb, blk_grown h.hn hg (fun e => by have := hne _ e.symm; omega), h.le⟩
theorem LF.set (h : LF W2 W nb T) (q : Nat) (v : Int) : LF W2 (W.setCell ⟨nb, q, none⟩ (.int .i64 v)) nb (T.set q v) := by
  refine ⟨h.hb.setCell (p := ⟨nb, q, none⟩) h.le _, ?_, h.le⟩
  have := blk_set h.hn q (.int .i64 v)
  rw [this, List.map_set]
  simp
theorem LF.far (h : LF W2 W nb T) {g : Nat} (hg : nb < g) (i : Nat) (v : Value) : LF W2 (W.setCell ⟨g, i, none⟩ v) nb T :=
  ⟨h.hb.setCell (p := ⟨g, i, none⟩) (by have := h.le; show W2.heap.size ≤ g; omega) _, blk_far h.hn (by show nb ≠ g; omega) _, h.le⟩
theorem LF.cell (h : LF W2 W nb T) {q : Nat} (hq : q < T.length) : W.cell? ⟨nb, q, none⟩ = some (.int .i64 (rd T (q : Int))) ∧ W.frozen? ⟨nb, q, none⟩ = false := by
  refine ⟨?_, blk_frozen h.hn q⟩
  rw [blk_cell h.hn]
  simp [rd, List.getD_eq_getElem?_getD, List.getElem?_eq_getElem hq]
theorem LF.C (h : LF W2 W nb T) (hl : T.length ≤ 1000) : Kd.C (Kd.int .i64) W (some ⟨nb, 0, none⟩) T.length T := by
  refine ⟨rfl, by omega, fun h0 => ⟨⟨nb, 0, none⟩, rfl, fun j p hj => ⟨[.int .i64 p], rfl, rfl, fun i u hu => ?_⟩⟩⟩
  obtain ⟨hj1, hj2⟩ := List.getElem?_eq_some_iff.1 hj
  cases i with
  | succ i => simp at hu
  | zero =>
    have hu' : Value.int .i64 p = u := by simpa using hu
    rw [← hu']
    have h2 : Addr.add ⟨nb, 0, none⟩ (j * (Kd.int .i64).sz + 0) = ⟨nb, 0 + j, none⟩ := by
      rw [show j * (Kd.int .i64).sz + 0 = j from by show j * 1 + 0 = j; omega]
      exact Addr.add_mid nb 0 j
    rw [h2, Nat.zero_add, (h.cell hj1).1]
    simp [rd, List.getD_eq_getElem?_getD, hj]
end
structure LG (w W2 W : World) (nb : Nat) (T : List Int) (g : Nat) (s1 : Value) (A : Option Addr) (c : Nat) (us : List S52) (sv : Value) : Prop where
  f : LF W2 W nb T
  hg : W.heap[g]? = some (.cells #[s1, sv] 25 (0, 0))
  row : Kd.R (kE w) 52 W W2.heap.size (fun k => g < k) (.slice A us.length c) us
  lt : nb < g
section
variable {w W2 W W1 : World} {nb g : Nat} {T : List Int} {s1 sv : Value} {A : Option Addr} {c : Nat} {us : List S52}
theorem LG.below (h : LG w W2 W nb T g s1 A c us sv) (hb : Below W.heap.size W W1) : LG w W2 W1 nb T g s1 A c us sv := ⟨h.f.below hb, blk_below h.hg hb, Kd.R_below h.row hb, h.lt⟩
theorem LG.push {x : S52} {A2 : Option Addr} {c2 : Nat} (h : LG w W2 W nb T g s1 A c us sv) (ho : Kd.R (kE w) 52 W1 W2.heap.size (fun k => g < k) (.slice A2 (us ++ [x]).length c2) (us ++ [x])) (hb : Below W2.heap.size W2 W1) (hg : W.grownBy W1 (Value.slice A us.length c).ownBlock) : LG w W2 W1 nb T g s1 A2 c2 (us ++ [x]) sv := by
  have hr : ∀ k, (Value.slice A us.length c).ownBlock = some k → g < k := h.row.1
  have hl := h.lt
  exact ⟨h.f.grown hb hg (fun k hk => by have := hr k hk; omega), blk_grown h.hg hg (fun e => by have := hr _ e.symm; omega), ho, hl⟩
theorem LG.set (h : LG w W2 W nb T g s1 A c us sv) (v : Value) : LG w W2 (W.setCell ⟨g, 1, none⟩ v) nb T g s1 A c us v :=
  ⟨h.f.far h.lt 1 v, blk_set h.hg 1 v, Kd.R_far h.row (p := ⟨g, 1, none⟩) (fun k hk e => by have e2 : k = g := e; omega) v, h.lt⟩
end
def lst (l : List Int) (j : Nat) : Int := if j = 0 then -1 else rd l ((j - 1 : Nat) : Int)
theorem rd_get {l : List Int} {j : Nat} (h : j < l.length) : rd l (j : Int) = l[j] := by simp [rd, List.getD_eq_getElem?_getD, List.getElem?_eq_getElem h]
theorem lst_lt {fs : List S52} {l : List Int} (hR : IsR fs l) {j : Nat} (hj : j < l.length) : lst l j < l[j] := by
  unfold lst
  by_cases h : j = 0
  · rw [if_pos h]
    obtain ⟨m, hm, _⟩ := isR_mem hR (List.getElem_mem hj)
    omega
  · rw [if_neg h, rd_get (show j - 1 < l.length by omega)]
    exact List.pairwise_iff_getElem.1 hR.1 (j - 1) j (by omega) hj (by omega)
set_option maxHeartbeats 16000000 in
set_option maxRecDepth 100000 in
theorem schemeLess_calls (sy : List S71) (fs : List S52) (A1 A2 : Option Addr) (c1 c2 : Nat) (w : World) (hS : Kd.C k71 w A1 sy.length sy) (hF : Kd.C k52 w A2 fs.length fs) (hc1 : sy.length ≤ c1) (hc2 : fs.length ≤ c2) (hm : MX w) :
    Calls Tryz.prog 12 #[.agg #[.slice A1 sy.length c1, .slice A2 fs.length c2]] w fun E w' => E = .returned (.bool true) ∧ Below w.heap.size w w' := by
  have HS := Aside0.mk hS
  have HF := Aside0.mk hF
  have H1 := Aside0.mk fun W (hW : Below w.heap.size w W) => sreach_calls sy fs A1 A2 c1 c2 W (Kd.C_below hS hW) (Kd.C_below hF hW)
  have H2 := Aside0.mk fun W (hW : Below w.heap.size w W) => risch_calls sy fs A1 A2 c1 c2 W (Kd.C_below hS hW) (Kd.C_below hF hW) hc1 hc2
  have H3 := Aside0.mk fun W (hW : Below w.heap.size w W) => sorderS_calls sy fs A1 A2 c1 c2 W (Kd.C_below hS hW) (Kd.C_below hF hW)
  have HAL := Aside0.mk fun W (hW : Below w.heap.size w W) => alive_calls W (hm.below hW)
  have HB := Aside0.mk (CB.mk (below_alloc (Below.refl w.heap.size w) (.cells #[.slice A1 sy.length c1, .slice A2 fs.length c2] 25)) (blk_new w (.cells #[.slice A1 sy.length c1, .slice A2 fs.length c2] 25)))
  clear hS hF hc1 hc2 hm
  unfold ReQ at H1
  go_enter Tryz.func12, Tryz.ntmps12
  go_upto_region 1 with (fail)
  generalize w.alloc (.cells #[.slice A1 sy.length c1, .slice A2 fs.length c2] 25) = W1 at *
  obtain ⟨k0, k1⟩ := (HB.out).cells
  go_wp2_with fail
  refine (H1.out _ (HB.out).hb).mono ?_
  rintro E W2 ⟨hb, hE⟩
  have HB2 := Aside0.mk ((HB.out).below hb)
  rcases hE with ⟨hq, rfl⟩ | ⟨hq, l, A3, c3, hl, rfl, hc3, hC3⟩
  · rw [hq] at H2
    clear hb hq HB H1 k0 k1
    obtain ⟨k0, k1⟩ := (HB2.out).cells
    go_wp2_with fail
    refine (H2.out _ (HB2.out).hb).mono ?_
    rintro E W3 ⟨rfl, hb⟩
    have HB3 := Aside0.mk ((HB2.out).below hb)
    clear hb HB2 H2 k0 k1
    go_wp2_with fail
    refine (HAL.out _ (HB3.out).hb).mono ?_
    rintro E W4 ⟨rfl, hb⟩
    have HB4 := Aside0.mk ((HB3.out).below hb)
    clear hb HB3
    go_wp2
    go_ret
    exact ⟨rfl, (HB4.out).hb⟩
  have HQ := Aside0.mk hq
  have HLR := Aside0.mk hl
  have HC3 := Aside0.mk hC3
  have HN := Aside0.mk (show fs.length ≤ 64 ∧ 1 ≤ fs.length from ⟨(schB_seven hq).2.2.1, (schB_seven hq).2.1⟩)
  have HLL := Aside0.mk (show l.length ≤ 64 from by have := isR_len hl; have := HN.out; omega)
  obtain ⟨ad3, _, e3, _⟩ := Kd.C_get hC3 (0 : Int) (0 : Int) (Int.le_refl _) (by obtain ⟨r, hr⟩ := isR_zero hl (HN.out).2; rw [hr]; simp)
  subst e3
  clear hb hq hl hc3 hC3 HB H1 H2 k0 k1
  obtain ⟨k0, k1⟩ := (HB2.out).cells
  have hmk := mkI fs.length (by have := HN.out; omega)
  have HLF := Aside0.mk (show LF W2 (W2.alloc (.cells (madeCells #[.int .i64 0] fs.length) 3)) W2.heap.size (List.replicate fs.length 0) from
    ⟨below_alloc (Below.refl _ _) _, by rw [blk_new W2, made_rep]; simp, Nat.le_refl _⟩)
  go_upto_region 5 with (fail)
  clear k0 k1 hmk
  generalize (W2.alloc (.cells (madeCells #[.int .i64 0] fs.length) 3)) = W3 at *
  obtain ⟨nb, hnb⟩ : ∃ nb, W2.heap.size = nb := ⟨_, rfl⟩
  have HNB := Aside0.mk hnb
  rw [hnb] at HLF ⊢
  clear hnb
  go_wp2
  go_loopg [44] fs.length (fun gg v44 wi => ∃ (j : Nat) (T : List Int), j ≤ fs.length ∧ fs.length - j ≤ gg ∧ v44 = .int .i64 j ∧ Aside0 (LF W2 wi nb T) ∧ Aside0 (T.length = fs.length))
  case atStart => exact ⟨0, List.replicate fs.length 0, Nat.zero_le _, Nat.le_refl _, rfl, HLF, ⟨List.length_replicate⟩⟩
  case round =>
    clear HLF
    obtain ⟨j, T, hj, hgg, rfl, HLF, HTL⟩ := hrel
    by_cases hlt : j < fs.length
    · have hltz : (j : Int) < (fs.length : Int) := by omega
      have hnn : (0 : Int) ≤ (j : Int) := by omega
      obtain ⟨n0, nf0⟩ := (HLF.out).cell (q := j) (by rw [HTL.out]; exact hlt)
      have HKZ := Aside0.mk (show wrap64 ((j : Int) + 1) = ((j + 1 : Nat) : Int) by rw [wr_id (by omega) (by have := HN.out; omega)]; rfl)
      have HLF2 := Aside0.mk ((HLF.out).set j (-1))
      have HTL2 := Aside0.mk (show (T.set j (-1)).length = fs.length by rw [List.length_set]; exact HTL.out)
      go_wp2
      go_roundg (fs.length - (j + 1))
      case measure => omega
      case rel => exact ⟨j + 1, T.set j (-1), hlt, Nat.le_refl _, by rw [HKZ.out], HLF2, HTL2⟩
    · have hltz : ¬ (j : Int) < (fs.length : Int) := by omega
      clear hgg hj hlt
      go_wp2
      clear hltz
      go_loopg [7, 53] l.length (fun gg v7 v53 wi => ∃ (j : Nat) (T : List Int), j ≤ l.length ∧ l.length - j ≤ gg ∧ v7 = .int .i64 (lst l j) ∧ v53 = .int .i64 j ∧ Aside0 (LF W2 wi nb T) ∧ Aside0 (T.length = fs.length) ∧ Aside0 (∀ (i : Nat) (h : i < l.length), i < j → rd T l[i] = (i : Int)))
      case atStart => exact ⟨0, T, Nat.zero_le _, Nat.le_refl _, rfl, rfl, HLF, HTL, ⟨fun i _ h => absurd h (Nat.not_lt_zero _)⟩⟩
      case round =>
        clear HLF HTL
        obtain ⟨j, T, hj, hgg, rfl, rfl, HLF, HTL, HTN⟩ := hrel
        by_cases hlt : j < l.length
        · have hltz : (j : Int) < (l.length : Int) := by omega
          have hnn : (0 : Int) ≤ (j : Int) := by omega
          have HLT := Aside0.mk hlt
          have hcl := pw_cell_below (HLF.out).hb (Kd.foot_int HC3.out (j : Int) (by omega) hltz)
          rw [rd_get hlt, Int.toNat_natCast] at hcl
          have hls := lst_lt HLR.out hlt
          obtain ⟨m, hm, hmn, _⟩ := isR_mem HLR.out (List.getElem_mem hlt)
          have HM := Aside0.mk hm
          have HKZ := Aside0.mk (show wrap64 ((j : Int) + 1) = ((j + 1 : Nat) : Int) by rw [wr_id (by omega) (by have := HLL.out; omega)]; rfl)
          have HLS := Aside0.mk (show lst l (j + 1) = (m : Int) by unfold lst; rw [if_neg (by omega), Nat.add_sub_cancel, rd_get hlt, hm])
          rw [hm] at hcl hls
          have hmz : (m : Int) < (fs.length : Int) := by omega
          have hm0 : (0 : Int) ≤ (m : Int) := by omega
          have hlz : ¬ (m : Int) ≤ lst l j := by omega
          have hgz : ¬ (m : Int) ≥ (fs.length : Int) := by omega
          obtain ⟨n0, nf0⟩ := (HLF.out).cell (q := m) (by rw [HTL.out]; exact hmn)
          have HLF2 := Aside0.mk ((HLF.out).set m (j : Int))
          have HTL2 := Aside0.mk (show (T.set m (j : Int)).length = fs.length by rw [List.length_set]; exact HTL.out)
          have HTN2 := Aside0.mk (show ∀ (i : Nat) (h : i < l.length), i < j + 1 → rd (T.set m (j : Int)) l[i] = (i : Int) from fun i hi hij => by
            obtain ⟨q, hq, _⟩ := isR_mem HLR.out (List.getElem_mem hi)
            rw [hq, rd_set (by rw [HTL.out]; exact hmn)]
            by_cases e : q = m
            · rw [if_pos e]
              have h1 : l[i] = l[j] := by rw [hq, HM.out, e]
              rcases Nat.lt_or_ge i j with h2 | h2
              · have := List.pairwise_iff_getElem.1 (HLR.out).1 i j hi HLT.out h2; omega
              · rw [show i = j by omega]
            · rw [if_neg e, ← hq]
              refine HTN.out i hi ?_
              rcases Nat.lt_or_ge i j with h2 | h2
              · exact h2
              · exfalso
                have h3 : i = j := by omega
                subst h3
                rw [HM.out] at hq
                omega)
          obtain ⟨k0, k1⟩ := And.intro (pw_cell_below (HLF.out).hb (HB2.out).cells.1) (pw_cell_below (HLF.out).hb (HB2.out).cells.2)
          generalize lst l j = la at *
          clear hls hm hmn
          go_wp2
          go_roundg (l.length - (j + 1))
          case measure => omega
          case rel => exact ⟨j + 1, T.set m (j : Int), HLT.out, Nat.le_refl _, by rw [HLS.out], by rw [HKZ.out], HLF2, HTL2, HTN2⟩
        · have hltz : ¬ (j : Int) < (l.length : Int) := by omega
          obtain rfl : j = l.length := by omega
          have HNO := Aside0.mk (show NumOk T l from fun i hi => HTN.out i hi hi)
          clear hgg hj hlt HTN
          obtain ⟨k0, k1⟩ := And.intro (pw_cell_below (HLF.out).hb (HB2.out).cells.1) (pw_cell_below (HLF.out).hb (HB2.out).cells.2)
          go_upto_region 20 with (fail)
          have HG0 := Aside0.mk (show LG w W2 (wr.alloc (.cells #[.slice A1 sy.length c1, .slice none 0 0] 25)) nb T wr.heap.size (.slice A1 sy.length c1) none 0 [] (.slice none 0 0) from
            ⟨(HLF.out).below (below_alloc (Below.refl _ _) _), blk_new wr _, Kd.R_nil _ _ _ _ _, blk_sz (HLF.out).hn⟩)
          clear k0 k1 HLF
          generalize wr.alloc (.cells #[.slice A1 sy.length c1, .slice none 0 0] 25) = W5 at *
          generalize wr.heap.size = g at *
          go_wp2
          go_loopg [79] l.length (fun gg v79 wi => ∃ (j : Nat) (A : Option Addr) (c : Nat) (us : List S52), j ≤ l.length ∧ l.length - j ≤ gg ∧ v79 = .int .i64 j ∧ Aside0 (LG w W2 wi nb T g (.slice A1 sy.length c1) A c us (.slice A us.length c)) ∧ Aside0 (us = keepL fs T (l.take j)))
          case atStart => exact ⟨0, none, 0, [], Nat.zero_le _, Nat.le_refl _, rfl, HG0, ⟨by rw [List.take_zero]; rfl⟩⟩
          case round =>
          clear HG0
          obtain ⟨j, A, c, us, hj, hgg, rfl, HG, HU⟩ := hrel
          have HBW := Aside0.mk (below_then (HB2.out).hb (HB2.out).hb.size (HG.out).f.hb)
          by_cases hlt : j < l.length
          case neg =>
            have hltz : ¬ (j : Int) < (l.length : Int) := by omega
            obtain rfl : j = l.length := by omega
            rw [List.take_length] at HU
            have HV := Aside0.mk (show schB sy us = true by rw [HU.out]; exact keep_valid HQ.out HLR.out HNO.out)
            have HO := Aside0.mk (show (ordL us : Int) ≤ (ordL fs : Int) by rw [HU.out]; have := keep_order (tq := T) HLR.out; omega)
            have HKR := Aside0.mk (show IsR us ((List.range l.length).map fun i : Nat => (i : Int)) by rw [HU.out]; exact keep_reach HQ.out HLR.out HNO.out)
            have HCU := Aside0.mk (kE_C (Kd.R_reads' (HG.out).row).2.2 (HBW.out))
            have H4 := Aside0.mk fun W (hW : Below wr.heap.size wr W) => sorderS_calls sy us A1 A c1 c W (Kd.C_below (Kd.C_below HS.out HBW.out) hW) (Kd.C_below HCU.out hW)
            have H5 := Aside0.mk fun W (hW : Below wr.heap.size wr W) => sreach_calls sy us A1 A c1 c W (Kd.C_below (Kd.C_below HS.out HBW.out) hW) (Kd.C_below HCU.out hW)
            have H6 := Aside0.mk fun W (hW : Below wr.heap.size wr W) => scheme_calls sy us A1 A c1 c W (Kd.C_below (Kd.C_below HS.out HBW.out) hW) (Kd.C_below HCU.out hW)
            rw [ordV_good HV.out] at H4
            rw [schV_good HV.out] at H6
            rw [ordV_good HQ.out] at H3
            unfold ReQ at H5
            have hoz := HO.out
            clear hgg hj hlt HU
            obtain ⟨k0, k1⟩ := And.intro (pw_cell_below (HG.out).f.hb (HB2.out).cells.1) (pw_cell_below (HG.out).f.hb (HB2.out).cells.2)
            go_wp2_with fail
            refine (H3.out _ HBW.out).mono ?_
            rintro E w6 ⟨rfl, hb⟩
            have HG6 := Aside0.mk ((HG.out).below hb)
            have HR6 := Aside0.mk hb
            clear hb k0 k1 H3 HG
            have g0 : w6.cell? ⟨g, 0, none⟩ = some (.slice A1 sy.length c1) := (blk_cell (HG6.out).hg 0).trans rfl
            have g1 : w6.cell? ⟨g, 1, none⟩ = some (.slice A us.length c) := (blk_cell (HG6.out).hg 1).trans rfl
            go_wp2_with fail
            refine (H4.out _ HR6.out).mono ?_
            rintro E w7 ⟨rfl, hb⟩
            have HG7 := Aside0.mk ((HG6.out).below hb)
            have HR7 := Aside0.mk (below_then HR6.out (HR6.out).size hb)
            clear hb g0 g1 H4 HG6 HR6
            have g0 : w7.cell? ⟨g, 0, none⟩ = some (.slice A1 sy.length c1) := (blk_cell (HG7.out).hg 0).trans rfl
            have g1 : w7.cell? ⟨g, 1, none⟩ = some (.slice A us.length c) := (blk_cell (HG7.out).hg 1).trans rfl
            go_wp2_with fail
            refine (H5.out _ HR7.out).mono ?_
            rintro E w8 ⟨hb, hE⟩
            rcases hE with ⟨hq, _⟩ | ⟨_, l2, A5, c5, hl2, rfl, _, _⟩
            · rw [HV.out] at hq; cases hq
            have hl2n : l2.length = l.length := by rw [IsR.uniq hl2 HKR.out, List.length_map, List.length_range]
            rw [hl2n]
            have HG8 := Aside0.mk ((HG7.out).below hb)
            have HR8 := Aside0.mk (below_then HR7.out (HR7.out).size hb)
            clear hb g0 g1 H5 HG7 HR7 hl2 hl2n
            have g0 : w8.cell? ⟨g, 0, none⟩ = some (.slice A1 sy.length c1) := (blk_cell (HG8.out).hg 0).trans rfl
            have g1 : w8.cell? ⟨g, 1, none⟩ = some (.slice A us.length c) := (blk_cell (HG8.out).hg 1).trans rfl
            generalize (ordL us : Int) = o1 at *
            generalize (ordL fs : Int) = o2 at *
            go_wp2_with fail
            refine (H6.out _ HR8.out).mono ?_
            rintro E w9 ⟨rfl, hb⟩
            have HG9 := Aside0.mk ((HG8.out).below hb)
            clear hb g0 g1 H6 HG8 HR8
            have HB9 := Aside0.mk (below_then (HB2.out).hb (HB2.out).hb.size (HG9.out).f.hb)
            go_wp2_with fail
            refine (HAL.out _ HB9.out).mono ?_
            rintro E w10 ⟨rfl, hb⟩
            have HB10 := Aside0.mk (below_then HB9.out (HB9.out).size hb)
            clear hb HG9 HB9
            go_wp2
            go_ret
            exact ⟨rfl, HB10.out⟩
          have hltz : (j : Int) < (l.length : Int) := by omega
          have hnn : (0 : Int) ≤ (j : Int) := by omega
          have HLT := Aside0.mk hlt
          have hcl := pw_cell_below (HG.out).f.hb (Kd.foot_int HC3.out (j : Int) (by omega) hltz)
          rw [rd_get hlt, Int.toNat_natCast] at hcl
          obtain ⟨m, hm, hmn, _⟩ := isR_mem HLR.out (List.getElem_mem hlt)
          have HKZ := Aside0.mk (show wrap64 ((j : Int) + 1) = ((j + 1 : Nat) : Int) by rw [wr_id (by omega) (by have := HLL.out; omega)]; rfl)
          have HU2 := Aside0.mk (show us ++ [(⟨fs[m].f0, fs[m].f1, rnT T fs[m].f2⟩ : S52)] = keepL fs T (l.take (j + 1)) from by
            rw [takeS hlt, HU.out]
            unfold keepL
            rw [List.map_append, hm, List.map_singleton]
            unfold keep1
            rw [rdF_at hmn])
          have HUL := Aside0.mk (show us.length = j by rw [HU.out]; unfold keepL; rw [List.length_map, List.length_take]; omega)
          rw [hm] at hcl
          have hmz : (m : Int) < (fs.length : Int) := by omega
          have hm0 : (0 : Int) ≤ (m : Int) := by omega
          obtain ⟨ad, As, cs, At, ct, e, hx0, hx1, hx2, hx3, hx4, hls, hCs, hlt4, hCt⟩ := at_T52 HF.out (m : Int) hm0 hmz
          subst e
          rw [rdF_at hmn] at hx0 hx1 hx2 hx3 hx4 hls hCs hlt4 hCt
          rw [Int.toNat_natCast] at hx0 hx1 hx2 hx3 hx4
          replace hx0 := pw_cell_below HBW.out hx0
          replace hx1 := pw_cell_below HBW.out hx1
          replace hx2 := pw_cell_below HBW.out hx2
          replace hx3 := pw_cell_below HBW.out hx3
          replace hx4 := pw_cell_below HBW.out hx4
          have HCS := Aside0.mk (And.intro hls hCs)
          have HTM := Aside0.mk (show tN fs[m].f2 ≤ 400 from (bodyOk_parts ((schB_seven HQ.out).2.2.2.2.2.2 _ (List.getElem_mem hmn))).1)
          have HTC := Aside0.mk (schB_calls HQ.out m hmn)
          have HRN := Aside0.mk (fun (W : World) (h : LG w W2 W nb T g (.slice A1 sy.length c1) A c us (.slice A us.length c)) => (show Calls Tryz.prog 33 #[.agg #[.int .i64 fs[m].f2.f0, .int .i64 fs[m].f2.f1, .slice At fs[m].f2.f2.length ct], .slice (some ⟨nb, 0, none⟩) fs.length fs.length] W _ from by
            have hh := rn_calls fs[m].f2 T At ct (some ⟨nb, 0, none⟩) fs.length W (Kd.C_below hCt (below_then (HB2.out).hb (HB2.out).hb.size h.f.hb)) hlt4 (h.f.C (by rw [HTL.out]; have := HN.out; omega)) (by rw [HTL.out]; exact Nat.le_refl _) (by have := HTM.out; omega) (by rw [HTL.out]; have := HN.out; omega) (fun k hk => by rw [HTL.out]; exact HTC.out k hk)
            rw [HTL.out] at hh
            exact hh))
          obtain ⟨k0, k1⟩ := And.intro (pw_cell_below (HG.out).f.hb (HB2.out).cells.1) (pw_cell_below (HG.out).f.hb (HB2.out).cells.2)
          clear hls hCs hlt4 hCt hm HU
          generalize fs[m] = f at *
          go_upto_region 24 with (fail)
          have hba := below_alloc (Below.refl wr.heap.size wr) (.cells #[.string f.f0, .slice As f.f1.f0.length cs, .int .i64 f.f2.f0, .int .i64 f.f2.f1, .slice At f.f2.f2.length ct] 52)
          have HX5 := Aside0.mk (blk_new wr (.cells #[.string f.f0, .slice As f.f1.f0.length cs, .int .i64 f.f2.f0, .int .i64 f.f2.f1, .slice At f.f2.f2.length ct] 52))
          have HOB := Aside0.mk (Kd.R_lt (HG.out).row)
          have HG5 := Aside0.mk ((HG.out).below hba)
          clear hx0 hx1 hx2 hx3 hx4 hba k0 k1 hcl HG
          generalize (wr.alloc (.cells #[.string f.f0, .slice As f.f1.f0.length cs, .int .i64 f.f2.f0, .int .i64 f.f2.f1, .slice At f.f2.f2.length ct] 52)) = w5 at *
          generalize wr.heap.size = b7 at *
          have HLB := Aside0.mk (show (us.length + 1) * 80 ≤ 140737488355328 by have := HUL.out; have := HLL.out; omega)
          have HK := Aside0.mk (fun (W : World) (hW : Below w5.heap.size w5 W) => (show W.cell? ⟨g, 1, none⟩ = some (.slice A us.length c) ∧ W.cell? ⟨b7, 0, none⟩ = some (.string f.f0) ∧ W.cell? ⟨b7, 1, none⟩ = some (.slice As f.f1.f0.length cs) ∧ W.cell? ⟨b7, 2, none⟩ = some (.int .i64 f.f2.f0) ∧ W.cell? ⟨b7, 3, none⟩ = some (.int .i64 f.f2.f1) ∧ W.cell? ⟨b7, 4, none⟩ = some (.slice At f.f2.f2.length ct) from
            ⟨(blk_cell (blk_below (HG5.out).hg hW) 1).trans rfl, (blk_cell (blk_below HX5.out hW) 0).trans rfl, (blk_cell (blk_below HX5.out hW) 1).trans rfl, (blk_cell (blk_below HX5.out hW) 2).trans rfl, (blk_cell (blk_below HX5.out hW) 3).trans rfl, (blk_cell (blk_below HX5.out hW) 4).trans rfl⟩))
          refine wp_region_noPanic ?_
          refine start_ (n := 15) (S := fun w' => w'.cell? ⟨g, 1, none⟩ = some (.slice A us.length c) ∧ w'.cell? ⟨b7, 0, none⟩ = some (.string f.f0) ∧ w'.cell? ⟨b7, 1, none⟩ = some (.slice As f.f1.f0.length cs) ∧ w'.cell? ⟨b7, 2, none⟩ = some (.int .i64 f.f2.f0) ∧ w'.cell? ⟨b7, 3, none⟩ = some (.int .i64 f.f2.f1) ∧ w'.cell? ⟨b7, 4, none⟩ = some (.slice At f.f2.f2.length ct)) (ds := [14]) #[false, false, false, false, false, false, false, false, false, false, false, false, false, false, false] (by kernel_rfl) rfl rfl (HK.out _ (below_drew (Below.refl _ _))) (fun hHeld => ?_)
          refine with_tabW tab12 bits12 (fun HT_ HW_ => ?_)
          have hd := below_drew (Below.refl w5.heap.size w5)
          have HGD := Aside0.mk ((HG5.out).below hd)
          generalize w5.drew = wd at hd hHeld HGD ⊢
          refine take_ (i := 0) (N := some 88) (v := ?_) (a' := ?_) #[true, false, false, false, false, false, false, false, false, false, false, false, false, false, false] rfl rfl (take_ofW HT_.out HW_.out (by kernel_rfl)) (fun _ _ _ h => h) (Or.inl ⟨by rfl, ?_⟩) hHeld ?_ ?_
          rotate_left
          · rintro w' ⟨s0, s1, s2, s3, s4, s5⟩
            go_simp
            with_reducible rfl
          rotate_left
          · simp only [Act.put, List.setIfInBounds_toArray, List.set_cons_zero, List.set_cons_succ]
            rfl
          refine take_ (i := 1) (N := some 89) (v := ?_) (a' := ?_) #[true, true, false, false, false, false, false, false, false, false, false, false, false, false, false] rfl rfl (take_ofW HT_.out HW_.out (by kernel_rfl)) (fun _ _ _ h => h) (Or.inl ⟨by rfl, ?_⟩) hHeld ?_ ?_
          rotate_left
          · rintro w' ⟨s0, s1, s2, s3, s4, s5⟩
            go_simp
            with_reducible rfl
          rotate_left
          · simp only [Act.put, List.setIfInBounds_toArray, List.set_cons_zero, List.set_cons_succ]
            rfl
          refine take_ (i := 2) (N := some 90) (v := ?_) (a' := ?_) #[true, true, true, false, false, false, false, false, false, false, false, false, false, false, false] rfl rfl (take_ofW HT_.out HW_.out (by kernel_rfl)) (fun _ _ _ h => h) (Or.inl ⟨by rfl, ?_⟩) hHeld ?_ ?_
          rotate_left
          · rintro w' ⟨s0, s1, s2, s3, s4, s5⟩
            go_simp
            with_reducible rfl
          rotate_left
          · simp only [Act.put, List.setIfInBounds_toArray, List.set_cons_zero, List.set_cons_succ]
            rfl
          refine take_ (i := 3) (N := some 91) (v := ?_) (a' := ?_) #[true, true, true, true, false, false, false, false, false, false, false, false, false, false, false] rfl rfl (take_ofW HT_.out HW_.out (by kernel_rfl)) (fun _ _ _ h => h) (Or.inl ⟨by rfl, ?_⟩) hHeld ?_ ?_
          rotate_left
          · rintro w' ⟨s0, s1, s2, s3, s4, s5⟩
            go_simp
            with_reducible rfl
          rotate_left
          · simp only [Act.put, List.setIfInBounds_toArray, List.set_cons_zero, List.set_cons_succ]
            rfl
          refine take_ (i := 4) (N := some 92) (v := ?_) (a' := ?_) #[true, true, true, true, true, false, false, false, false, false, false, false, false, false, false] rfl rfl (take_ofW HT_.out HW_.out (by kernel_rfl)) (fun _ _ _ h => h) (Or.inl ⟨by rfl, ?_⟩) hHeld ?_ ?_
          rotate_left
          · rintro w' ⟨s0, s1, s2, s3, s4, s5⟩
            go_simp
            with_reducible rfl
          rotate_left
          · simp only [Act.put, List.setIfInBounds_toArray, List.set_cons_zero, List.set_cons_succ]
            rfl
          refine take_ (i := 5) (N := some 93) (v := ?_) (a' := ?_) #[true, true, true, true, true, true, false, false, false, false, false, false, false, false, false] rfl rfl (take_ofW HT_.out HW_.out (by kernel_rfl)) (fun _ _ _ h => h) (Or.inl ⟨by rfl, ?_⟩) hHeld ?_ ?_
          rotate_left
          · rintro w' ⟨s0, s1, s2, s3, s4, s5⟩
            go_simp
            with_reducible rfl
          rotate_left
          · simp only [Act.put, List.setIfInBounds_toArray, List.set_cons_zero, List.set_cons_succ]
            rfl
          refine take_ (i := 6) (N := some 94) (v := ?_) (a' := ?_) #[true, true, true, true, true, true, true, false, false, false, false, false, false, false, false] rfl rfl (take_ofW HT_.out HW_.out (by kernel_rfl)) (fun _ _ _ h => h) (Or.inl ⟨by rfl, ?_⟩) hHeld ?_ ?_
          rotate_left
          · rintro w' ⟨s0, s1, s2, s3, s4, s5⟩
            go_simp
            with_reducible rfl
          rotate_left
          · simp only [Act.put, List.setIfInBounds_toArray, List.set_cons_zero, List.set_cons_succ]
            rfl
          refine take_ (i := 7) (N := some 95) (v := ?_) (a' := ?_) #[true, true, true, true, true, true, true, true, false, false, false, false, false, false, false] rfl rfl (take_ofW HT_.out HW_.out (by kernel_rfl)) (fun _ _ _ h => h) (Or.inl ⟨by rfl, ?_⟩) hHeld ?_ ?_
          rotate_left
          · rintro w' ⟨s0, s1, s2, s3, s4, s5⟩
            go_simp
            with_reducible rfl
          rotate_left
          · simp only [Act.put, List.setIfInBounds_toArray, List.set_cons_zero, List.set_cons_succ]
            rfl
          refine take_ (i := 8) (N := some 96) (v := ?_) (a' := ?_) #[true, true, true, true, true, true, true, true, true, false, false, false, false, false, false] rfl rfl (take_ofW HT_.out HW_.out (by kernel_rfl)) (fun _ _ _ h => h) (Or.inl ⟨by rfl, ?_⟩) hHeld ?_ ?_
          rotate_left
          · rintro w' ⟨s0, s1, s2, s3, s4, s5⟩
            go_simp
            with_reducible rfl
          rotate_left
          · simp only [Act.put, List.setIfInBounds_toArray, List.set_cons_zero, List.set_cons_succ]
            rfl
          refine one_ (i := 9) (N := some 97) #[true, true, true, true, true, true, true, true, true, true, false, false, false, false, false] rfl rfl (one_of HT_.out (by kernel_rfl)) (by decide) (fun K hK => ?_)
          refine goes_ (f := 33) Tryz.func33 (by kernel_rfl) rfl #[.agg #[.int .i64 f.f2.f0, .int .i64 f.f2.f1, .slice At f.f2.f2.length ct], .slice (some ⟨nb, 0, none⟩) fs.length fs.length] (by rfl) rfl rfl (by (try simp only [List.map_toArray, List.map_cons, List.map_nil]); rfl) ?_
          refine (HRN.out _ HGD.out).mono ?_
          rintro E W6 ⟨v6, rfl, hR6, hb6⟩
          have HG6 := Aside0.mk ((HGD.out).below hb6)
          have hd6 := below_then hd hd.size hb6
          obtain ⟨A6, c6, rfl⟩ := Kd.R_slice hR6
          have HR6 := Aside0.mk (Kd.R_bound hR6)
          have HGL := Aside0.mk (show g < wd.heap.size from blk_lt (HGD.out).hg)
          have HRL := Aside0.mk (Kd.R_lt (HGD.out).row)
          refine ⟨_, rfl, ?_⟩
          refine hK.out _ _ (HK.out _ hd6) (fun hHeld => ?_)
          clear hK K
          refine norm_ (a' := ?_) ?_ ?_
          rotate_left
          · show Act.put _ (some 97) _ = _
            simp only [Act.put, List.setIfInBounds_toArray, List.set_cons_zero, List.set_cons_succ]
            rfl
          refine take_ (i := 10) (N := some 98) (v := ?_) (a' := ?_) #[true, true, true, true, true, true, true, true, true, true, true, false, false, false, false] rfl rfl (take_ofW HT_.out HW_.out (by kernel_rfl)) (fun _ _ _ h => h) (Or.inl ⟨by rfl, ?_⟩) hHeld ?_ ?_
          rotate_left
          · rintro w' ⟨s0, s1, s2, s3, s4, s5⟩
            go_simp
            with_reducible rfl
          rotate_left
          · simp only [Act.put, List.setIfInBounds_toArray, List.set_cons_zero, List.set_cons_succ]
            rfl
          refine one_ (i := 11) (N := some 99) #[true, true, true, true, true, true, true, true, true, true, true, true, false, false, false] rfl rfl (one_of HT_.out (by kernel_rfl)) (by decide) (fun K hK => ?_)
          refine value_ (w1 := ?_) (v := ?_) (by rfl) rfl ?_ ?_
          rotate_left 2
          · go_simp
            constructor
            · rfl
            · rfl
          refine hK.out _ _ (HK.out _ (below_alloc hd6 _)) (fun hHeld => ?_)
          clear hK K
          refine norm_ (a' := ?_) ?_ ?_
          rotate_left
          · show Act.put _ (some 99) _ = _
            simp only [Act.put, List.setIfInBounds_toArray, List.set_cons_zero, List.set_cons_succ]
            rfl
          refine one_ (i := 12) (N := some 100) #[true, true, true, true, true, true, true, true, true, true, true, true, true, false, false] rfl rfl (one_of HT_.out (by kernel_rfl)) (by decide) (fun K hK => ?_)
          refine Kd.R_append_step (kE w) (w0 := W2) W2.heap.size (by rfl) (.tmp 89) (.tmp 99) 23 52 (.agg #[.string ⟨#[]⟩, .slice none 0 0, .int .i64 0, .int .i64 0, .slice none 0 0]) 80 rfl Tryz.underlying23 Q.info52 rfl (show 0 < 5 by decide) (by decide) (.slice A us.length c) us (⟨f.f0, f.f1, rnT T f.f2⟩ : S52) [.string f.f0, .slice As f.f1.f0.length cs, .int .i64 (rnT T f.f2).f0, .int .i64 (rnT T f.f2).f1, .slice A6 (rnT T f.f2).f2.length c6] (fun k => g < k) (fun k => g < k ∧ some k ≠ (Value.slice A us.length c).ownBlock) (by rfl) (by rfl) ?aP (fun _ hk => hk) ?aF ?aO (HG6.out).f.hb (HG6.out).f.hb.size HLB.out ?_
          (case aP => exact kE_mk HCS.out.1 HCS.out.2 (Kd.R_mono (Kd.R_lower HR6.out (HGD.out).f.hb.size) (fun k hk => ⟨by have := hk.2.1; have := HGL.out; omega, fun e => by have := HRL.out k e.symm; have := hk.2.1; omega⟩)))
          (case aF => exact fun k hk => by have := HGL.out; have := hb6.size; omega)
          (case aO => exact (HG6.out).row)
          intro v8 w8 ho hb8 hg8 hat8
          obtain ⟨A8, c8, rfl⟩ := Kd.R_slice ho
          have HG8 := Aside0.mk ((HG6.out).push ho hb8 hg8)
          have hX8 := blk_grown (blk_below HX5.out hd6) hg8 (fun e => by have := HOB.out _ e.symm; omega)
          have HK8 := Aside0.mk (show w8.cell? ⟨g, 1, none⟩ = some (.slice A us.length c) ∧ w8.cell? ⟨b7, 0, none⟩ = some (.string f.f0) ∧ w8.cell? ⟨b7, 1, none⟩ = some (.slice As f.f1.f0.length cs) ∧ w8.cell? ⟨b7, 2, none⟩ = some (.int .i64 f.f2.f0) ∧ w8.cell? ⟨b7, 3, none⟩ = some (.int .i64 f.f2.f1) ∧ w8.cell? ⟨b7, 4, none⟩ = some (.slice At f.f2.f2.length ct) from ⟨(blk_cell (HG8.out).hg 1).trans rfl, (blk_cell hX8 0).trans rfl, (blk_cell hX8 1).trans rfl, (blk_cell hX8 2).trans rfl, (blk_cell hX8 3).trans rfl, (blk_cell hX8 4).trans rfl⟩)
          refine hK.out _ _ HK8.out (fun hHeld => ?_)
          clear hK K
          refine norm_ (a' := ?_) ?_ ?_
          rotate_left
          · show Act.put _ (some 100) _ = _
            simp only [Act.put, List.setIfInBounds_toArray, List.set_cons_zero, List.set_cons_succ]
            rfl
          refine pure_ (i := 13) (N := some 101) (v := ?_) (a' := ?_) #[true, true, true, true, true, true, true, true, true, true, true, true, true, true, false] rfl rfl (any_of HT_.out (by kernel_rfl)) (fun _ _ _ h => h) (Or.inl ⟨by rfl, ?_⟩) ?_ ?_
          rotate_left
          · intro w'
            go_simp
            with_reducible rfl
          rotate_left
          · simp only [Act.put, List.setIfInBounds_toArray, List.set_cons_zero, List.set_cons_succ]
            rfl
          refine last_ (i := 14) (N := none) #[true, true, true, true, true, true, true, true, true, true, true, true, true, true, true] rfl rfl (one_of HT_.out (by kernel_rfl)) (by decide) (fun K hK => ?_)
          have c9 := (HK8.out).1
          have f9 := blk_frozen (HG8.out).hg 1
          refine skip_ (w1 := w8.setCell ⟨g, 1, none⟩ (.slice A8 (us ++ [(⟨f.f0, f.f1, rnT T f.f2⟩ : S52)]).length c8)) (by rfl) rfl ?_ ?_
          · go_simp
          refine hK.out _ _ ?_
          clear hK K
          refine done_ (done_of HT_.out (by kernel_rfl)) ?_
          refine NoPanic.normal ?_
          have HG9 := Aside0.mk ((HG8.out).set (.slice A8 (us ++ [(⟨f.f0, f.f1, rnT T f.f2⟩ : S52)]).length c8))
          clear c9 f9 hX8 ho hb8 hg8 hat8 hHeld
          generalize w8.setCell ⟨g, 1, none⟩ (.slice A8 (us ++ [(⟨f.f0, f.f1, rnT T f.f2⟩ : S52)]).length c8) = w9 at *
          go_wp2
          go_roundg (l.length - (j + 1))
          case measure => have := HLT.out; omega
          case rel => exact ⟨j + 1, A8, c8, us ++ [(⟨f.f0, f.f1, rnT T f.f2⟩ : S52)], HLT.out, Nat.le_refl _, by rw [HKZ.out], HG9, HU2⟩
end Go.Proofs.YthflpbgloeimfaaGreatDoor.H
namespace Go.Proofs.YthflpbgloeimfaaGreatDoor.H
open Go.ChangeShapes Go.WideShapes Go.ChangeAt Go.RowKit Go.Deep Go.Proofs.YthflpbgloeimfaaGreatDoorW.PrintWords Go.Proofs.YthflpbgloeimfaaGreatDoorW.PrintLast Go.Proofs.YthflpbgloeimfaaGreatDoorW.PrintMore
open Go.Proofs.YthflpbgloeimfaaGreatDoor.Q (S47 k47 S50 k50 S52 k52 S71 k71)
set_option linter.unusedVariables false
set_option linter.unusedSimpArgs false
set_option maxRecDepth 100000
def Opens {α : Type} (P : Program) (t : TypeId) (d : Kd α) (W : α → Prop) : Prop :=
  ∀ {H : Type} (enc : TypeId × Value → H) (w : World) (base : Nat) (held : Bool) (fuel : Nat) (cs : List Value) (x : DataW H × List MemPlace),
    DataW.trod enc P w base (fun _ => true) held fuel t cs = some x → ∃ a : α, d.K w a cs ∧ W a
theorem choose_list {α : Type} {p : Nat → α → Prop} {n : Nat} (h : ∀ i, i < n → ∃ y, p i y) : ∃ xs : List α, xs.length = n ∧ ∀ i y, xs[i]? = some y → p i y := by
  induction n with
  | zero => exact ⟨[], rfl, fun i y h => by simp at h⟩
  | succ n ih =>
    obtain ⟨xs, h1, h2⟩ := ih (fun i hi => h i (by omega))
    obtain ⟨y, hy⟩ := h n (by omega)
    refine ⟨xs ++ [y], by simp [h1], fun i z hz => ?_⟩
    rcases Nat.lt_or_ge i xs.length with hi | hi
    · rw [List.getElem?_append_left hi] at hz
      exact h2 i z hz
    · rw [List.getElem?_append_right hi] at hz
      have h3 : i - xs.length = 0 := by
        rcases Nat.eq_zero_or_pos (i - xs.length) with h | h
        · exact h
        · rw [List.getElem?_eq_none (by simp; omega)] at hz; cases hz
      rw [h3] at hz
      obtain rfl : y = z := by simpa using hz
      rw [show i = n from by omega]
      exact hy
theorem opens_slice {α : Type} {P : Program} {t e : TypeId} {d : Kd α} {W : α → Prop} (ht : P.underlying t = some (.slice e)) (hsz : P.cellsOf e = d.sz) (ho : Opens P e d W) : Opens P t (Kd.slice e d) (fun xs => ∀ x ∈ xs, W x) := by
  intro H enc w base held fuel cs x h
  rcases open_slice ht h with ⟨rfl, _⟩ | ⟨a, len, cap, m, n, D, Pl, rfl, _, hl, hm, hmm, _, hx⟩
  · exact ⟨[], ⟨none, 0, rfl, Nat.le_refl _, rfl, by simp, fun h0 => absurd h0 (by simp)⟩, by simp⟩
  · have hmm' : m = cap := by simpa using hmm
    have each : ∀ i, i < len → ∃ y : α, ∃ cs', w.cells? base (a.add (i * P.cellsOf e)) (P.cellsOf e) = some cs' ∧ d.K w y cs' ∧ W y := by
      intro i hi
      obtain ⟨cs', h1, h2⟩ := hx i (by omega)
      obtain ⟨y, hy, hw⟩ := ho enc w base held n cs' _ h2
      exact ⟨y, cs', h1, hy, hw⟩
    obtain ⟨xs, hxl, hxs⟩ := choose_list each
    refine ⟨xs, ⟨some a, cap, by rw [hxl], by omega, rfl, ?_, fun _ => ⟨a, rfl, fun j p hj => ?_⟩⟩, fun y hy => ?_⟩
    · have : maxLen = 9223372036854775807 := rfl
      omega
    · obtain ⟨cs', h1, h2, _⟩ := hxs j p hj
      obtain ⟨_, hlen, hcell⟩ := World.cells?_some h1
      refine ⟨cs', d.K_len h2, h2, fun i u hu => ?_⟩
      have hi : i < cs'.length := (List.getElem?_eq_some_iff.1 hu).1
      have h3 := hcell i (by omega)
      rw [Go.Deep.add_add, hsz] at h3
      rw [h3]; exact hu
    · obtain ⟨j, hj, rfl⟩ := List.getElem_of_mem hy
      obtain ⟨_, _, _, h3⟩ := hxs j _ (List.getElem?_eq_getElem hj)
      exact h3
theorem open_row {α H : Type} {enc : TypeId × Value → H} {P : Program} {t e : TypeId} {d : Kd α} {W : α → Prop} {w : World} {base fuel : Nat} {held : Bool} {v : Value} {x : DataW H × List MemPlace} (ht : P.underlying t = some (.slice e)) (hsz : P.cellsOf e = d.sz) (ho : Opens P e d W)
    (h : DataW.trod enc P w base (fun _ => true) held fuel t [v] = some x) : ∃ A c xs, v = .slice A xs.length c ∧ xs.length ≤ c ∧ d.C w A xs.length xs ∧ ∀ y ∈ xs, W y := by
  obtain ⟨xs, ⟨A, c, hv, hc, hC⟩, hW⟩ := opens_slice ht hsz ho enc w base held fuel [v] x h
  exact ⟨A, c, xs, by simpa using hv, hc, hC, hW⟩
theorem open_kidsG {α H : Type} {d : Kd α} {ts te : TypeId} (hts : Tryz.prog.underlying ts = some (.slice te)) (hsz : Tryz.prog.cellsOf te = d.sz) {enc : TypeId × Value → H} {w : World} {base fuel : Nat} {held : Bool} {cs : List Value} {x : DataW H × List MemPlace} (h : DataW.trod enc Tryz.prog w base (fun _ => true) held fuel ts cs = some x)
    (each : ∀ (fuel : Nat) (cs : List Value) (y : DataW H × List MemPlace), SizeOf.sizeOf y.1 < SizeOf.sizeOf x.1 → DataW.trod enc Tryz.prog w base (fun _ => true) held fuel te cs = some y → ∃ t : α, d.K w t cs) :
    ∃ (A : Option Addr) (c : Nat) (l : List α), cs = [.slice A l.length c] ∧ l.length ≤ c ∧ d.C w A l.length l := by
  rcases open_slice hts h with ⟨rfl, _⟩ | ⟨a, len, cap, m, n, D, Pl, rfl, _, hl, hm, hmm, hxe, hx⟩
  · exact ⟨none, 0, [], rfl, Nat.le_refl _, rfl, by simp, fun h0 => absurd h0 (by simp)⟩
  · have hmm' : m = cap := by simpa using hmm
    have hel : ∀ i, i < len → ∃ t : α, ∃ cs', w.cells? base (a.add (i * Tryz.prog.cellsOf te)) (Tryz.prog.cellsOf te) = some cs' ∧ d.K w t cs' := by
      intro i hi
      obtain ⟨cs', h1, h2⟩ := hx i (by omega)
      have hlt : SizeOf.sizeOf (D i) < SizeOf.sizeOf x.1 := by
        rw [hxe]
        have hmem : D i ∈ (List.range len).map D := List.mem_map.2 ⟨i, List.mem_range.2 hi, rfl⟩
        have := List.sizeOf_lt_of_mem hmem
        simp only [DataW.slice.sizeOf_spec]
        omega
      obtain ⟨t, ht⟩ := each n cs' _ hlt h2
      exact ⟨t, cs', h1, ht⟩
    obtain ⟨xs, hxl, hxs⟩ := choose_list hel
    refine ⟨some a, cap, xs, by rw [hxl], by omega, rfl, ?_, fun _ => ⟨a, rfl, fun j p hj => ?_⟩⟩
    · have : maxLen = 9223372036854775807 := rfl
      omega
    · obtain ⟨cs', h1, h2⟩ := hxs j p hj
      obtain ⟨_, hlen, hcell⟩ := World.cells?_some h1
      refine ⟨cs', d.K_len h2, h2, fun i u hu => ?_⟩
      have hi : i < cs'.length := (List.getElem?_eq_some_iff.1 hu).1
      have h3 := hcell i (by omega)
      rw [Go.Deep.add_add, hsz] at h3
      rw [h3]; exact hu
theorem open_srt {H : Type} {enc : TypeId × Value → H} {w : World} {base : Nat} {held : Bool} (N : Nat) : ∀ (fuel : Nat) (cs : List Value) (x : DataW H × List MemPlace), SizeOf.sizeOf x.1 ≤ N → DataW.trod enc Tryz.prog w base (fun _ => true) held fuel 47 cs = some x → ∃ t : S47, k47.K w t cs := by
  induction N with
  | zero =>
    intro fuel cs x hN
    have : 0 < SizeOf.sizeOf x.1 := by cases x.1 <;> simp <;> omega
    omega
  | succ N ih =>
    intro fuel cs x hN h
    obtain ⟨y0, n, rfl, hl, h0⟩ := trod_struct1 Tryz.underlying47 h
    have o0 : (Tryz.prog.cellsOf 43) = 1 := by kernel_rfl
    have o2 : (Tryz.prog.cellsOf 47) = 1 := by kernel_rfl
    rw [o2] at hl
    match cs, hl with
    | [c0], _ =>
      simp only [o0] at h0
      obtain ⟨A, c, l, e1, hlc, hC⟩ := open_kidsG (d := k47) Tryz.underlying43 (by kernel_rfl) h0 (fun fuel cs y hy hh => ih fuel cs y (by simp only [DataW.agg.sizeOf_spec, List.cons.sizeOf_spec, List.nil.sizeOf_spec] at hN; omega) hh)
      obtain rfl : c0 = .slice A l.length c := by simpa using e1
      exact ⟨⟨l⟩, Q.k47_mk w ⟨l⟩ hlc hC⟩
theorem open_trm {H : Type} {enc : TypeId × Value → H} {w : World} {base : Nat} {held : Bool} (N : Nat) : ∀ (fuel : Nat) (cs : List Value) (x : DataW H × List MemPlace), SizeOf.sizeOf x.1 ≤ N → DataW.trod enc Tryz.prog w base (fun _ => true) held fuel 50 cs = some x → ∃ t : S50, k50.K w t cs := by
  induction N with
  | zero =>
    intro fuel cs x hN
    have : 0 < SizeOf.sizeOf x.1 := by cases x.1 <;> simp <;> omega
    omega
  | succ N ih =>
    intro fuel cs x hN h
    obtain ⟨y0, y1, y2, n, rfl, hl, h0, h1, h2⟩ := trod_struct3 Tryz.underlying50 h
    have o0 : (Tryz.prog.cellsOf 3) = 1 := by kernel_rfl
    have o1 : (Tryz.prog.cellsOf 48) = 1 := by kernel_rfl
    have o2 : (Tryz.prog.cellsOf 50) = 3 := by kernel_rfl
    rw [o2] at hl
    match cs, hl with
    | [c0, c1, c2], _ =>
      simp only [o0, o1] at h0 h1 h2
      obtain ⟨s, e0, _, _⟩ := DataW.trod_int Tryz.underlying3 h0
      obtain ⟨t, e1, _, _⟩ := DataW.trod_int Tryz.underlying3 h1
      obtain ⟨A, c, l, e2, hlc, hC⟩ := open_kidsG (d := k50) Tryz.underlying48 (by kernel_rfl) h2 (fun fuel cs y hy hh => ih fuel cs y (by simp only [DataW.agg.sizeOf_spec, List.cons.sizeOf_spec, List.nil.sizeOf_spec] at hN; omega) hh)
      obtain rfl : c0 = .int .i64 s := by simpa using e0
      obtain rfl : c1 = .int .i64 t := by simpa using e1
      obtain rfl : c2 = .slice A l.length c := by simpa using e2
      exact ⟨⟨s, t, l⟩, Q.k50_mk w ⟨s, t, l⟩ hlc hC⟩
theorem opens_fun : Opens Tryz.prog 52 k52 (fun _ => True) := by
  intro H enc w base held fuel cs x h
  obtain ⟨y0, y1, y2, n, rfl, hl, h0, h1, h2⟩ := trod_struct3 Tryz.underlying52 h
  have o0 : (Tryz.prog.cellsOf 9) = 1 := by kernel_rfl
  have o1 : (Tryz.prog.cellsOf 47) = 1 := by kernel_rfl
  have o2 : (Tryz.prog.cellsOf 50) = 3 := by kernel_rfl
  have o3 : (Tryz.prog.cellsOf 52) = 5 := by kernel_rfl
  rw [o3] at hl
  match cs, hl with
  | [c0, c1, c2, c3, c4], _ =>
    simp only [o0, o1, o2] at h0 h1 h2
    obtain ⟨s, e0, _, _⟩ := DataW.trod_string Tryz.underlying9 h0
    obtain ⟨t, ht⟩ := open_srt _ _ _ _ (Nat.le_refl _) h1
    obtain ⟨u, hu⟩ := open_trm _ _ _ _ (Nat.le_refl _) h2
    obtain ⟨A1, d1, e1, l1, g1⟩ := Q.k47_open ht
    obtain ⟨A4, d4, e4, l4, g4⟩ := Q.k50_open hu
    have f0 : c0 = .string s := by simpa using e0
    have f1 : c1 = .slice A1 t.f0.length d1 := by simpa using e1
    have f4 : c2 = .int .i64 u.f0 ∧ c3 = .int .i64 u.f1 ∧ c4 = .slice A4 u.f2.length d4 := by simpa using e4
    obtain ⟨rfl, rfl, rfl⟩ := f4
    subst f0 f1
    exact ⟨⟨s, t, u⟩, Q.k52_mk w ⟨s, t, u⟩ l1 g1 l4 g4, trivial⟩
theorem opens_sym : Opens Tryz.prog 71 k71 (fun _ => True) := by
  intro H enc w base held fuel cs x h
  obtain ⟨y0, y1, n, rfl, hl, h0, h1⟩ := trod_struct2 Tryz.underlying71 h
  have o0 : (Tryz.prog.cellsOf 9) = 1 := by kernel_rfl
  have o1 : (Tryz.prog.cellsOf 3) = 1 := by kernel_rfl
  have o2 : (Tryz.prog.cellsOf 71) = 2 := by kernel_rfl
  rw [o2] at hl
  match cs, hl with
  | [c0, c1], _ =>
    simp only [o0, o1] at h0 h1
    obtain ⟨s, e0, _, _⟩ := DataW.trod_string Tryz.underlying9 h0
    obtain ⟨t, e1, _, _⟩ := DataW.trod_int Tryz.underlying3 h1
    obtain rfl : c0 = .string s := by simpa using e0
    obtain rfl : c1 = .int .i64 t := by simpa using e1
    exact ⟨⟨s, t⟩, Q.k71_mk w ⟨s, t⟩, trivial⟩
theorem arg_scheme {H : Type} {enc : TypeId × Value → H} {w : World} {base : Nat} {held : Bool} {v : Value} {d : DataW H} {p : List MemPlace} (hv : Value.okWide Tryz.prog w .any base 25 v) (h : DataW.Trod enc Tryz.prog w 0 (fun _ => true) held 25 v d p) :
    ∃ (sy : List S71) (fs : List S52) (A1 : Option Addr) (c1 : Nat) (A2 : Option Addr) (c2 : Nat), v = .agg #[.slice A1 sy.length c1, .slice A2 fs.length c2] ∧ sy.length ≤ c1 ∧ Kd.C k71 w A1 sy.length sy ∧ fs.length ≤ c2 ∧ Kd.C k52 w A2 fs.length fs := by
  obtain ⟨x0, y0, _, _, n0, rfl, _, _, a0, b0⟩ := Go.Joins.open_agg2 Tryz.underlying25 (by kernel_rfl) (by kernel_rfl) hv h
  obtain ⟨A1, c1, sy, rfl, hl1, hC1, _⟩ := open_row (d := k71) Tryz.underlying22 (by kernel_rfl) opens_sym a0
  obtain ⟨A2, c2, fs, rfl, hl2, hC2, _⟩ := open_row (d := k52) Tryz.underlying23 (by kernel_rfl) opens_fun b0
  exact ⟨sy, fs, A1, c1, A2, c2, rfl, hl1, hC1, hl2, hC2⟩
theorem own : ownKnob Tryz.prog.godebug = none := by kernel_rfl
theorem laidOut : laidOutB Tryz.prog = true := by kernel_rfl
abbrev laid7 : List (String × DataW Unit) := [("math/bits.deBruijn32tab", Rows.laid_math_bits_deBruijn32tab), ("math/bits.deBruijn64tab", Rows.laid_math_bits_deBruijn64tab), ("internal/strconv.uint64pow10", Rows.laid_internal_strconv_uint64pow10), ("unicode/utf8.acceptRanges", Rows.laid_unicode_utf8_acceptRanges), ("strconv.ErrRange", Rows.laid_strconv_ErrRange), ("strconv.ErrSyntax", Rows.laid_strconv_ErrSyntax), ("unicode/utf8.first", Rows.laid_unicode_utf8_first)]
theorem mx_of_shaped {w : World} (h : w.ShapedOpen Tryz.prog) : MX w :=
  Go.Proofs.cell_of_shapedOpen_int (g := 0) (t := 3) (zero := #[.int .i64 0]) h (of_decide_eq_true (by kernel_rfl)) (by kernel_rfl) rfl (by kernel_rfl) (by kernel_rfl) Tryz.underlying3
theorem handed_and_shaped {H : Type} {enc : TypeId × Value → H} {a : Assume} {C : Checked} {os : Os} {f : FuncId} {fn : Func} {s : ChangeSpec} {conds : List PathCond} {apart fresh handsOn again : Bool} {X : World → Array Value → Prop}
    (hX : ∀ (w w' : World) (args : Array Value), w.heap = w'.heap → X w args → X w' args)
    (own : ownKnob C.prog.godebug = none) (started : os.Started) (noInit : C.prog.inits.idxOf? f = none) (hfn : C.prog.funcs[f]? = some fn)
    (witness : ∃ (w : World) (tape : Tape) (i : Input), w.os = os ∧ (w.forCall tape i).Shaped C.prog ∧ i.vars = [] ∧ Input.okWide C.prog (w.forCall tape i) .any w.heap.size f i ∧
      ((s.pre enc C.prog fn conds apart (w.forCall tape i).memory i.args ∧ X (w.forCall tape i).memory i.args) ∧ sizedMet enc C.prog fn (OpenSpec.ofChange s) apart (w.forCall tape i).memory i.args) ∧ a.holds C.prog (lone (Frame.enter C.prog f i.args .normal) [] (w.forCall tape i)))
    (contract : ∀ (W : World) (base : Nat) (args : Array Value) (ds gs : List (DataW H)) (before : List MemPlace),
      (∀ (j : Nat) t v, fn.params[j]? = some t → args[j]? = some v → Value.okWide C.prog W .any base t v) →
      DataW.Whole enc C.prog fn.params.toList s.vars apart W args.toList ds gs before →
      conds.all (PathCond.test C.prog ⟨fn.params.toList, ds, s.plain.varTypes C.prog, gs⟩) = true →
      X W args → W.ShapedOpen C.prog →
      Calls C.prog f args W fun e W' => ∃ v, e = .returned v ∧ s.post enc C.prog fn apart fresh handsOn again W args v W') :
    ReturnsInHanded a C os f .any (fun w args => (s.pre enc C.prog fn conds apart w args ∧ X w args) ∧ sizedMet enc C.prog fn (OpenSpec.ofChange s) apart w args) (s.post enc C.prog fn apart fresh handsOn again) := by
  refine returnsInHanded_of_calls own started noInit witness ?_
  intro w tape i _ hsh _ hok hpre hholds
  obtain ⟨_, _, _, fn', hfn', _, _, _, _, hval⟩ := hok
  have e : fn' = fn := Option.some.inj (hfn'.symm.trans hfn)
  subst e
  obtain ⟨⟨⟨ds, gs, before, hw, hc⟩, hx⟩, hz⟩ := hpre
  have hw' := DataW.Whole.of_heap (w' := w.forCall tape i) (by rfl) hw
  refine (contract (w.forCall tape i) w.heap.size i.args ds gs before hval hw' hc (hX _ _ _ (by rfl) hx) hsh).mono fun e W' ⟨v, he, hp⟩ => ?_
  subst he
  exact ChangeSpec.post_blind hp
end Go.Proofs.YthflpbgloeimfaaGreatDoor.H
