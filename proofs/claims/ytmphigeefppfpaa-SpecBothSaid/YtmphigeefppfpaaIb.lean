/- spec.Least, ref.Least: both make the least table. -/
import Derived.Test.YtmphigeefppfpaaIa
import Derived.Test.YtmphigeefppfpaaHd
import Derived.Laws.ResultCell
namespace Go.Proofs.Ytmphigeefppfpaa.H
open Go.RowKit Go.Proofs.YtmphigeefppfpaaW.PrintWords Go.Proofs.YtmphigeefppfpaaW.PrintLast Go.Proofs.YtmphigeefppfpaaW.PrintMore
set_option linter.unusedVariables false

/-- A specification is returned, and an error. -/
def SpecEnd (err n st : Int) (rows : List (List Int)) (w : World) (E : Ending) (w' : World) : Prop := ∃ (A : Option Addr) (c : Nat) (So : Nat → Prop), E = .returned (.tuple #[.agg #[.int .i64 n, .int .i64 st, .slice A rows.length c], .int .i64 err]) ∧ Kd.R (Kd.slice 3 (Kd.int .i64)) 25 w' w.heap.size So (.slice A rows.length c) rows ∧ Below w.heap.size w w'
noncomputable def leastRows (ev st : Int) (l : List (List Int)) : List (List Int) := rleastOf ev.toNat l st
def LeastsEnd (ev st : Int) (l : List (List Int)) : World → Ending → World → Prop := if specOk ev st l then SpecEnd 0 ev 0 (leastRows ev st l) else SpecEnd 11 0 0 []
theorem spec_table {ev st : Int} {l : List (List Int)} (hs : specOk ev st l = true) : tableOk ev.toNat l ∧ domS l st ∧ 0 ≤ ev ∧ ev ≤ 16 ∧ 1 ≤ l.length ∧ l.length ≤ 64 := by
  have hh := headOk_true (specOk_head hs)
  refine ⟨fun row hm => ?_, ⟨by omega, by omega⟩, by omega, by omega, by omega, by omega⟩
  simp only [specOk, Bool.and_eq_true, List.all_eq_true] at hs
  have h2 := hs.2 row hm
  simp only [rowOk, Bool.and_eq_true, decide_eq_true_eq, List.all_eq_true] at h2
  exact ⟨by omega, h2.2⟩
theorem leastRows_is {ev st : Int} {l : List (List Int)} (hs : specOk ev st l = true) : IsLeast ev.toNat l st (leastRows ev st l) ∧ (leastRows ev st l).length ≤ l.length := by
  obtain ⟨h1, h2, _, _, h3, _⟩ := spec_table hs
  exact rleast_is h1 h3 h2
/-- The boxes of a specification that comes in, and of one that goes out. -/
structure SB (w W : World) (a b c : Value) : Prop where
  hb : Below w.heap.size w W
  hs : W.heap[w.heap.size]? = some (.cells #[a, b, c] 24 (0, 0))
  hr : W.heap[w.heap.size + 1]? = some (.cells #[.int .i64 0, .int .i64 0, .slice none 0 0] 24 (0, 0))
theorem SB.below {w W W1 : World} {a b c : Value} (h : SB w W a b c) (hb : Below W.heap.size W W1) : SB w W1 a b c := ⟨below_then h.hb h.hb.size hb, blk_below h.hs hb, blk_below h.hr hb⟩
theorem SB.start (w : World) (a b c : Value) : SB w ((w.alloc (.cells #[a, b, c] 24)).alloc (.cells #[.int .i64 0, .int .i64 0, .slice none 0 0] 24)) a b c :=
  ⟨below_alloc (below_alloc (Below.refl _ _) (.cells #[a, b, c] 24)) (.cells #[.int .i64 0, .int .i64 0, .slice none 0 0] 24), blk_alloc (blk_new _ _) _, blk_at2 _ _ _⟩
theorem SB.cells {w W : World} {a b c : Value} (h : SB w W a b c) : W.cell? ⟨w.heap.size, 0, none⟩ = some a ∧ W.cell? ⟨w.heap.size, 1, none⟩ = some b ∧ W.cell? ⟨w.heap.size, 2, none⟩ = some c :=
  ⟨(blk_cell h.hs 0).trans rfl, (blk_cell h.hs 1).trans rfl, (blk_cell h.hs 2).trans rfl⟩
theorem SB.res {w W : World} {a b c : Value} (h : SB w W a b c) : (W.cell? ⟨w.heap.size + 1, 0, none⟩ = some (.int .i64 0) ∧ W.frozen? ⟨w.heap.size + 1, 0, none⟩ = false) ∧ (W.cell? ⟨w.heap.size + 1, 1, none⟩ = some (.int .i64 0) ∧ W.frozen? ⟨w.heap.size + 1, 1, none⟩ = false) ∧ (W.cell? ⟨w.heap.size + 1, 2, none⟩ = some (.slice none 0 0) ∧ W.frozen? ⟨w.heap.size + 1, 2, none⟩ = false) :=
  ⟨⟨(blk_cell h.hr 0).trans rfl, blk_frozen h.hr 0⟩, ⟨(blk_cell h.hr 1).trans rfl, blk_frozen h.hr 1⟩, (blk_cell h.hr 2).trans rfl, blk_frozen h.hr 2⟩
/-- What is written into the box that goes out. -/
def outW (w W : World) (a b c : Value) : World := ((W.setCell ⟨w.heap.size + 1, 0, none⟩ a).setCell ⟨w.heap.size + 1, 1, none⟩ b).setCell ⟨w.heap.size + 1, 2, none⟩ c
theorem SB.out {w W : World} {a b c : Value} (h : SB w W a b c) (a' b' c' : Value) : (outW w W a' b' c').heap[w.heap.size + 1]? = some (.cells #[a', b', c'] 24 (0, 0)) ∧ Below w.heap.size w (outW w W a' b' c') :=
  ⟨blk_set (blk_set (blk_set h.hr 0 a') 1 b') 2 c', pw_below_grown (pw_below_grown (pw_below_grown h.hb _ h.hb.size (grown_setCell W ⟨w.heap.size + 1, 0, none⟩ a') (fun k hk => by cases hk; exact Nat.le_succ _)) _ (Nat.le_trans h.hb.size (by simp [World.setCell])) (grown_setCell _ ⟨w.heap.size + 1, 1, none⟩ b') (fun k hk => by cases hk; exact Nat.le_succ _)) _ (Nat.le_trans h.hb.size (by simp [World.setCell])) (grown_setCell _ ⟨w.heap.size + 1, 2, none⟩ c') (fun k hk => by cases hk; exact Nat.le_succ _)⟩
theorem SB.cells_out {w W : World} {a b c : Value} (h : SB w W a b c) (a' b' c' : Value) : (outW w W a' b' c').cell? ⟨w.heap.size, 0, none⟩ = some a ∧ (outW w W a' b' c').cell? ⟨w.heap.size, 1, none⟩ = some b ∧ (outW w W a' b' c').cell? ⟨w.heap.size, 2, none⟩ = some c := by
  have hne : some w.heap.size ≠ some (w.heap.size + 1) := by simp
  have hs : (outW w W a' b' c').heap[w.heap.size]? = some (.cells #[a, b, c] 24 (0, 0)) :=
    blk_grown (blk_grown (blk_grown h.hs (grown_setCell W ⟨w.heap.size + 1, 0, none⟩ a') hne) (grown_setCell _ ⟨w.heap.size + 1, 1, none⟩ b') hne) (grown_setCell _ ⟨w.heap.size + 1, 2, none⟩ c') hne
  exact ⟨(blk_cell hs 0).trans rfl, (blk_cell hs 1).trans rfl, (blk_cell hs 2).trans rfl⟩
theorem SB.stay {w W : World} {a b c : Value} {α : Type} {d : Kd α} {e base : Nat} {S : Nat → Prop} {v : Value} {xs : List α} (h : SB w W a b c) (hR : d.R e W base S v xs) (hq : ∀ q, q ∈ e :: d.E → q ≠ 24) (a' b' c' : Value) : d.R e (outW w W a' b' c') base S v xs :=
  R_offrow (R_offrow (R_offrow hR h.hr hq (grown_setCell W ⟨w.heap.size + 1, 0, none⟩ a')) (blk_set h.hr 0 a') hq (grown_setCell _ ⟨w.heap.size + 1, 1, none⟩ b')) (blk_set (blk_set h.hr 0 a') 1 b') hq (grown_setCell _ ⟨w.heap.size + 1, 2, none⟩ c')

theorem results_row_tmp {P : Program} {fn : Func} {p u : Tmp} {ty : TypeId} (h : fn.results = #[.cell p ty, .tmp u]) (tmps : Array Value) (w : World) (g : Nat) (t : TypeId) (cs : Array Value) (fr : Nat × Nat) (d : TypeDesc)
    (hp : tmps.getD p undef = .pointer (some ⟨g, 0, none⟩)) (hg : w.heap[g]? = some (.cells cs t fr))
    (hu : P.underlying ty = some d) (hd : (match d with | .struct _ | .array _ _ => true | _ => false) = true) (hi : (P.info? ty).map (·.size) = some cs.size) :
    (results fn tmps).run P w = .ok (.tuple #[.agg cs, tmps.getD u undef]) w := by
  rw [results_cell_tmp h, hp]
  simp only [asAddr, Sem.run_pure, Result.andThen_ok, run_loadVar_row w g t ty cs fr d hg hu hd hi]

set_option maxHeartbeats 2000000 in
theorem sLeast_calls (ev st : Int) (A : Option Addr) (c : Nat) (l : List (List Int)) (w : World) (hr : Kd.C (Kd.slice 3 (Kd.int .i64)) w A l.length l) :
    Calls Try.prog 26 #[.agg #[.int .i64 ev, .int .i64 st, .slice A l.length c]] w (LeastsEnd ev st l w) := by
  have H1 := Aside0.mk fun W (hW : Below w.heap.size w W) => check_calls ev st A c l W (Kd.C_below hr hW)
  have hB := Aside0.mk (SB.start w (.int .i64 ev) (.int .i64 st) (.slice A l.length c))
  have HR := Aside0.mk hr
  clear hr
  go_enter Try.func26, Try.ntmps26
  go_upto_region 1 with (fail)
  generalize ((w.alloc (.cells #[.int .i64 ev, .int .i64 st, .slice A l.length c] 24)).alloc (.cells #[.int .i64 0, .int .i64 0, .slice none 0 0] 24)) = w0 at *
  obtain ⟨hc0, hc1, hc2⟩ := (hB.out).cells
  go_wp2_with fail
  refine (H1.out _ (hB.out).hb).mono ?_
  rintro e w1 ⟨rfl, hb⟩
  have hB1 := Aside0.mk ((hB.out).below hb)
  clear hB hc0 hc1 hc2 hb H1
  cases hs : specOk ev st l with
  | false =>
    have hv : checkVal ev st l = 11 := by simp [checkVal, hs]
    rw [hv]
    have HE := Aside0.mk (show LeastsEnd ev st l = SpecEnd 11 0 0 [] from by simp [LeastsEnd, hs])
    clear hv hs
    obtain ⟨⟨hc0, hf0⟩, ⟨hc1, hf1⟩, hc2, hf2⟩ := (hB1.out).res
    go_wp2
    obtain ⟨hblk, hbl⟩ := (hB1.out).out (.int .i64 0) (.int .i64 0) (.slice none 0 0)
    refine bodyPost_ret (results_row_tmp rfl _ _ (w.heap.size + 1) 24 #[.int .i64 0, .int .i64 0, .slice none 0 0] (0, 0) _ rfl hblk Try.underlying24 rfl (by kernel_rfl)) rfl ?_
    rw [HE.out]
    exact ⟨none, 0, fun _ => False, rfl, Kd.R_nil _ _ _ _ _, hbl⟩
  | true =>
    have hv : checkVal ev st l = 0 := by simp [checkVal, hs]
    rw [hv]
    obtain ⟨ht, hst, he0, he1, hl0, hl1⟩ := spec_table hs
    obtain ⟨hg, hg0, hg1⟩ := reach_ok hs
    obtain ⟨k, hk, hmin⟩ := cls_stop hg hg0
    have HE := Aside0.mk (show LeastsEnd ev st l = SpecEnd 0 ev 0 (leastOf ev.toNat (reachB ev st l).1 (clsTo (reachB ev st l).1 (k + 1)).1) from by
      rw [show LeastsEnd ev st l = SpecEnd 0 ev 0 (leastRows ev st l) from by simp [LeastsEnd, hs]]
      rw [(leastRows_is hs).1.unique (least_is hg hg0 hk).1 (reach_lq hs).symm])
    have H2 := Aside0.mk fun W (hW : Below w.heap.size w W) => reached_calls ev st A c l W (Kd.C_below HR.out hW) hs
    have H3 := Aside0.mk fun W A cg (hc : Kd.C (Kd.slice 3 (Kd.int .i64)) W A (reachB ev st l).1.length (reachB ev st l).1) => least_calls ev.toNat (reachB ev st l).1 A cg k 0 W hc (by omega) hg0 (by omega) hg hk hmin
    rw [show ((ev.toNat : Nat) : Int) = ev from by omega] at H3
    unfold ReachEnd at H2
    unfold LeastEnd at H3
    generalize leastOf ev.toNat (reachB ev st l).1 (clsTo (reachB ev st l).1 (k + 1)).1 = rows at *
    generalize (reachB ev st l).1 = g at *
    clear hv hs ht hst hg hmin hk
    have HS := (hB1.out).below (W1 := w1.drew) (below_drew (Below.refl _ _))
    go_wp2
    go_region_held3 (fun w' => w'.cell? ⟨w.heap.size, 0, none⟩ = some (.int .i64 ev) ∧ w'.cell? ⟨w.heap.size, 1, none⟩ = some (.int .i64 st) ∧ w'.cell? ⟨w.heap.size, 2, none⟩ = some (.slice A l.length c))
      (first | exact SB.cells (by assumption) | exact SB.cells_out (by assumption) _ _ _) (first
      | (go_at_call 49; refine (H2.out _ HS.hb).mono ?_; rintro E w2 ⟨ov, So, rfl, ho, hb⟩; (obtain ⟨Ag, cg, rfl⟩ := Kd.R_slice ho); have HO := Aside0.mk (Kd.R_reads' ho); have HS1 := HS.below hb; clear HS hb ho)
      | (go_at_call 48; refine (H3.out _ _ _ (HO.out).2.2).mono ?_; rintro E w3 ⟨ov2, So2, rfl, ho2, hb2⟩; have HB1 := Aside0.mk HS1.hb.size; (obtain ⟨A2, c2, rfl⟩ := Kd.R_slice ho2); have HO2 := Aside0.mk ho2; have HS2 := HS1.below hb2; clear HS1 hb2 ho2; (obtain ⟨⟨hc0, hf0⟩, ⟨hc1, hf1⟩, hc2, hf2⟩ := HS2.res)))
    clear hc0 hf0 hc1 hf1 hc2 hf2
    obtain ⟨hblk, hbl⟩ := HS2.out (.int .i64 ev) (.int .i64 0) (.slice A2 rows.length c2)
    have HO3 := HS2.stay HO2.out (by simp [Kd.slice, Kd.int, Kd.scalar]) (.int .i64 ev) (.int .i64 0) (.slice A2 rows.length c2)
    go_wp2
    refine bodyPost_ret (results_row_tmp rfl _ _ (w.heap.size + 1) 24 #[.int .i64 ev, .int .i64 0, .slice A2 rows.length c2] (0, 0) _ rfl hblk Try.underlying24 rfl (by kernel_rfl)) rfl ?_
    rw [HE.out]
    exact ⟨A2, c2, So2, rfl, Kd.R_lower HO3 HB1.out, hbl⟩

set_option maxHeartbeats 2000000 in
theorem rLeast_calls (ev st : Int) (A : Option Addr) (c : Nat) (l : List (List Int)) (w : World) (hr : Kd.C (Kd.slice 3 (Kd.int .i64)) w A l.length l) (hcl : l.length ≤ c) :
    Calls Try.prog 27 #[.agg #[.int .i64 ev, .int .i64 st, .slice A l.length c]] w (LeastsEnd ev st l w) := by
  have H1 := Aside0.mk fun W (hW : Below w.heap.size w W) => ris_calls ev st A c l W (Kd.C_below hr hW) hcl
  have hB := Aside0.mk (SB.start w (.int .i64 ev) (.int .i64 st) (.slice A l.length c))
  have HR := Aside0.mk hr
  unfold SameEnd at H1
  clear hr
  go_enter Try.func27, Try.ntmps27
  go_upto_region 1 with (fail)
  generalize ((w.alloc (.cells #[.int .i64 ev, .int .i64 st, .slice A l.length c] 24)).alloc (.cells #[.int .i64 0, .int .i64 0, .slice none 0 0] 24)) = w0 at *
  obtain ⟨hc0, hc1, hc2⟩ := (hB.out).cells
  go_wp2_with fail
  refine (H1.out _ (hB.out).hb).mono ?_
  rintro e w1 ⟨rfl, hb⟩
  have hB1 := Aside0.mk ((hB.out).below hb)
  clear hB hc0 hc1 hc2 hb H1
  cases hs : specOk ev st l with
  | false =>
    have HE := Aside0.mk (show LeastsEnd ev st l = SpecEnd 11 0 0 [] from by simp [LeastsEnd, hs])
    clear hs
    obtain ⟨⟨hc0, hf0⟩, ⟨hc1, hf1⟩, hc2, hf2⟩ := (hB1.out).res
    go_wp2
    obtain ⟨hblk, hbl⟩ := (hB1.out).out (.int .i64 0) (.int .i64 0) (.slice none 0 0)
    refine bodyPost_ret (results_row_tmp rfl _ _ (w.heap.size + 1) 24 #[.int .i64 0, .int .i64 0, .slice none 0 0] (0, 0) _ rfl hblk Try.underlying24 rfl (by kernel_rfl)) rfl ?_
    rw [HE.out]
    exact ⟨none, 0, fun _ => False, rfl, Kd.R_nil _ _ _ _ _, hbl⟩
  | true =>
    obtain ⟨ht, hst, he0, he1, hl0, hl1⟩ := spec_table hs
    have HE := Aside0.mk (show LeastsEnd ev st l = SpecEnd 0 ev 0 (rleastOf ev.toNat l st) from by simp [LeastsEnd, hs, leastRows])
    have H2 := Aside0.mk (rleast_calls ev.toNat st A c l w1 (Kd.C_below HR.out (hB1.out).hb) hcl ht (by omega) (by omega) (by omega) hst)
    rw [show ((ev.toNat : Nat) : Int) = ev from by omega] at H2
    unfold RLeastEnd at H2
    rw [show ((ev.toNat : Nat) : Int) = ev from by omega] at H2
    generalize rleastOf ev.toNat l st = rows at *
    clear hs ht hst
    obtain ⟨hc0, hc1, hc2⟩ := (hB1.out).cells
    go_wp2_with fail
    refine H2.out.mono ?_
    rintro E w2 ⟨ov, So, rfl, ho, hb⟩
    have HB1 := Aside0.mk ((hB1.out).hb.size)
    have HS2 := (hB1.out).below hb
    obtain ⟨A2, c2, rfl⟩ := Kd.R_slice ho
    have HO2 := Aside0.mk ho
    clear hb ho hc0 hc1 hc2 hB1 H2
    obtain ⟨⟨hc0, hf0⟩, ⟨hc1, hf1⟩, hc2, hf2⟩ := HS2.res
    go_wp2
    obtain ⟨hblk, hbl⟩ := HS2.out (.int .i64 ev) (.int .i64 0) (.slice A2 rows.length c2)
    have HO3 := HS2.stay HO2.out (by simp [Kd.slice, Kd.int, Kd.scalar]) (.int .i64 ev) (.int .i64 0) (.slice A2 rows.length c2)
    refine bodyPost_ret (results_row_tmp rfl _ _ (w.heap.size + 1) 24 #[.int .i64 ev, .int .i64 0, .slice A2 rows.length c2] (0, 0) _ rfl hblk Try.underlying24 rfl (by kernel_rfl)) rfl ?_
    rw [HE.out]
    exact ⟨A2, c2, So, rfl, Kd.R_lower HO3 HB1.out, hbl⟩
end Go.Proofs.Ytmphigeefppfpaa.H
