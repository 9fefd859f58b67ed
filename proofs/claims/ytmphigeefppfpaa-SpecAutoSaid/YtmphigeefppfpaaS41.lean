/- What specAuto_calls needs, out of my texts, by a program (slim.py). -/
import Derived.Test.YtmphigeefppfpaaS40
namespace Go.Proofs.Ytmphigeefppfpaa.H
open Go.RowKit Go.Proofs.YtmphigeefppfpaaW.PrintWords Go.Proofs.YtmphigeefppfpaaW.PrintLast Go.Proofs.YtmphigeefppfpaaW.PrintMore
set_option linter.unusedVariables false
structure RB (w W : World) (n : Nat) (st : Int) (sv rv : Value) : Prop where
  hb : Below w.heap.size w W
  hs : W.heap[w.heap.size]? = some (.cells #[.int .i64 n, .int .i64 st, sv] 24 (0, 0))
  hr : W.heap[w.heap.size + 1]? = some (.cells #[.int .i64 0, .int .i64 0, rv] 24 (0, 0))
section
variable {w W W1 : World} {n : Nat} {st : Int} {sv rv cv nv : Value} {Sc Sn : Nat → Prop} {c next next' : List Int} {gb : Nat}
theorem RB.below (h : RB w W n st sv rv) (hb : Below W.heap.size W W1) : RB w W1 n st sv rv := ⟨below_then h.hb h.hb.size hb, blk_below h.hs hb, blk_below h.hr hb⟩
theorem RB.row (h : RB w W n st sv rv) {cells : Array Value} {T : TypeId} (ht : W.heap[gb]? = some (.cells cells T (0, 0))) (hT : T ≠ 24) (hg : W.grownBy W1 (some gb)) (hgb : w.heap.size ≤ gb) : RB w W1 n st sv rv :=
  ⟨pw_below_grown h.hb _ h.hb.size hg (fun k hk => by cases hk; exact hgb), blk_grown h.hs hg (fun e => by injection e with e; exact blk_ne h.hs ht (Ne.symm hT) e), blk_grown h.hr hg (fun e => by injection e with e; exact blk_ne h.hr ht (Ne.symm hT) e)⟩
theorem RB.own {α : Type} {d : Kd α} {e : Nat} {S : Nat → Prop} {v : Value} {xs : List α} (h : RB w W n st sv rv) (hr : d.R e W w.heap.size S v xs) (he : e ≠ 24) (hg : W.grownBy W1 v.ownBlock) : RB w W1 n st sv rv := by
  refine ⟨pw_below_grown h.hb _ h.hb.size hg (fun k hk => Kd.R_base hr k hk), blk_grown h.hs hg (fun e2 => ?_), blk_grown h.hr hg (fun e2 => ?_)⟩
  · obtain ⟨cells, hc⟩ := Kd.R_typed hr _ e2.symm
    exact blk_ne h.hs hc (Ne.symm he) rfl
  · obtain ⟨cells, hc⟩ := Kd.R_typed hr _ e2.symm
    exact blk_ne h.hr hc (Ne.symm he) rfl
end
theorem ref_held {w W : World} {n : Nat} {st : Int} {sv rv : Value} {S : Nat → Prop} {adc : Addr} {N cc p q : Nat} {c : List Int} (h : RB w W n st sv rv) (hc : Kd.R (Kd.int .i64) 3 W w.heap.size S (.slice (some adc) N cc) c) (hl : c.length = N) (hp : p < N) (hq : q < N) :
    (W.cell? (adc.add p) = some (.int .i64 (rd c (p : Int))) ∧ W.cell? (adc.add q) = some (.int .i64 (rd c (q : Int)))) ∧ (W.cell? ⟨w.heap.size, 0, none⟩ = some (.int .i64 n) ∧ W.cell? ⟨w.heap.size, 1, none⟩ = some (.int .i64 st) ∧ W.cell? ⟨w.heap.size, 2, none⟩ = some sv) := by
  refine ⟨⟨?_, ?_⟩, (blk_cell h.hs 0).trans rfl, (blk_cell h.hs 1).trans rfl, (blk_cell h.hs 2).trans rfl⟩
  · obtain ⟨ad, e, hx⟩ := Kd.at_int (Kd.R_reads' hc).2.2 (p : Int) (by omega) (by omega)
    cases e; rwa [Int.toNat_natCast] at hx
  · obtain ⟨ad, e, hx⟩ := Kd.at_int (Kd.R_reads' hc).2.2 (q : Int) (by omega) (by omega)
    cases e; rwa [Int.toNat_natCast] at hx
def stepR (l : List (List Int)) (K : List Int) (x : Int) (e : Nat) : Int × Bool := if (stepS l x e).2 then (rd K (stepS l x e).1, true) else (0, false)
noncomputable def rleastOf (n : Nat) (l : List (List Int)) (st : Int) : List (List Int) := (bfsTo n (stepR l (refCls n l l.length)) (rd (refCls n l l.length) st) l.length).1
def RLeastEnd (n : Nat) (l : List (List Int)) (st : Int) (w : World) (E : Ending) (w' : World) : Prop := ∃ (ov : Value) (So : Nat → Prop), E = .returned (.agg #[.int .i64 n, .int .i64 0, ov]) ∧ Kd.R (Kd.slice 3 (Kd.int .i64)) 25 w' w.heap.size So ov (rleastOf n l st) ∧ Below w.heap.size w w'
def NumIs (ys q : List Int) (N : Nat) : Prop := ys.length = N ∧ ∀ p : Nat, p < N → rd ys (p : Int) = if (p : Int) ∈ q then (place (p : Int) q : Int) else -1
theorem rd_set {ys : List Int} {p k : Nat} (hp : p < ys.length) (hk : k < ys.length) (v : Int) : rd (ys.set k v) (p : Int) = if k = p then v else rd ys (p : Int) := by
  rw [rd_at (by rw [List.length_set]; exact hp), rd_at hp, List.getElem_set]
theorem NumIs.start {N : Nat} {c : Nat} (h : c < N) : NumIs ((List.replicate N (-1)).set c 0) [(c : Int)] N := by
  refine ⟨by simp, fun p hp => ?_⟩
  rw [rd_set (by simpa using hp) (by simpa using h), rd_at (by simpa using hp)]
  by_cases e : c = p
  · subst e; simp [place]
  · rw [if_neg e, if_neg (by simp; omega)]; simp
theorem NumIs.put {ys q : List Int} {N : Nat} (h : NumIs ys q N) {k : Nat} (hk : k < N) (hn : (k : Int) ∉ q) : NumIs (ys.set k (q.length : Int)) (q ++ [(k : Int)]) N := by
  refine ⟨by rw [List.length_set]; exact h.1, fun p hp => ?_⟩
  rw [rd_set (by rw [h.1]; exact hp) (by rw [h.1]; exact hk), h.2 p hp]
  by_cases e : k = p
  · subst e
    rw [if_pos rfl, if_pos (by simp)]
    simp [place, List.idxOf_append, hn]
  · rw [if_neg e]
    by_cases hm : (p : Int) ∈ q
    · rw [if_pos hm, if_pos (by simp [hm])]
      simp [place, List.idxOf_append, hm]
    · rw [if_neg hm, if_neg (by simp [hm]; omega)]
section
variable {α : Type} {d : Kd α} {e base B1 : Nat} {S : Nat → Prop} {W W1 : World} {v : Value} {xs : List α} {row : Option Nat}
theorem R_high (h : d.R e W base S v xs) (hg : W.grownBy W1 row) (hne : ∀ k, row = some k → k < base) : d.R e W1 base S v xs :=
  Kd.R_mono (Kd.R_step (Kd.R_bound h) (fun k hk hlt => hg.block k hlt (fun he => absurd (hne k he.symm) (by have := hk.2.1; omega)))) (fun k hk => hk.1)
theorem R_low (h : d.R e W base (fun k => k < B1) v xs) (hg : W.grownBy W1 row) (hne : ∀ k, row = some k → B1 ≤ k) : d.R e W1 base (fun k => k < B1) v xs :=
  Kd.R_mono (R_stay h hg (fun k hk hlt => absurd (hne k hk) (by omega))) (fun k hk => hk.1)
end
structure RQ (wl W : World) (N n ob nb cn B1 : Nat) (bv qv ov rv : Value) (Sq So Sr : Nat → Prop) (qn q : List Int) (o : List (List Int)) (r : List Int) : Prop where
  hb : Below wl.heap.size wl W
  h1 : wl.heap.size ≤ nb ∧ nb < B1 ∧ B1 ≤ W.heap.size ∧ B1 ≤ ob
  ho : W.heap[ob]? = some (.cells #[.int .i64 n, .int .i64 0, bv] 24 (0, 0))
  hN : ∃ ys, NumIs ys qn N ∧ Kd.R (Kd.int .i64) 3 W wl.heap.size (fun k => k < B1) (.slice (some ⟨nb, 0, none⟩) N cn) ys
  hQ : Kd.R (Kd.int .i64) 3 W B1 Sq qv q
  hO : Kd.R (Kd.slice 3 (Kd.int .i64)) 25 W B1 So ov o
  hR : Kd.R (Kd.int .i64) 3 W B1 Sr rv r
  dqo : Disj Sq So
  dqr : Disj Sq Sr
  dor : Disj So Sr
section
variable {wl W W1 : World} {N n ob nb cn B1 : Nat} {bv qv ov rv qv1 ov1 rv1 : Value} {Sq So Sr : Nat → Prop} {qn qn1 q q1 : List Int} {o o1 : List (List Int)} {r r1 ys : List Int}
theorem RQ.drewN (h : RQ wl W N n ob nb cn B1 bv qv ov rv Sq So Sr qn q o r) (m : Nat) : RQ wl (W.drewN m) N n ob nb cn B1 bv qv ov rv Sq So Sr qn q o r :=
  have hd := pw_below_drewN (Below.refl W.heap.size W) m
  ⟨below_then h.hb h.hb.size hd, ⟨h.h1.1, h.h1.2.1, Nat.le_trans h.h1.2.2.1 hd.size, h.h1.2.2.2⟩, blk_below h.ho hd, h.hN.imp fun _ hy => ⟨hy.1, Kd.R_drewN hy.2 m⟩, Kd.R_drewN h.hQ m, Kd.R_drewN h.hO m, Kd.R_drewN h.hR m, h.dqo, h.dqr, h.dor⟩
theorem RQ.write (h : RQ wl W N n ob nb cn B1 bv qv ov rv Sq So Sr qn q o r) (hy : NumIs ys qn1 N) (hr : Kd.R (Kd.int .i64) 3 W1 wl.heap.size (fun k => k < B1) (.slice (some ⟨nb, 0, none⟩) N cn) ys) (hg : W.grownBy W1 (some nb)) : RQ wl W1 N n ob nb cn B1 bv qv ov rv Sq So Sr qn1 q o r := by
  obtain ⟨a1, a2, a3, a4⟩ := h.h1
  have hne : ∀ k, some nb = some k → k < B1 := fun k hk => by cases hk; exact a2
  exact ⟨pw_below_grown h.hb _ h.hb.size hg (fun k hk => by cases hk; exact a1), ⟨a1, a2, Nat.le_trans a3 hg.size, a4⟩, blk_grown h.ho hg (fun e => by injection e with e; omega), ⟨ys, hy, hr⟩, R_high h.hQ hg hne, R_high h.hO hg hne, R_high h.hR hg hne, h.dqo, h.dqr, h.dor⟩
theorem RQ.appQ (h : RQ wl W N n ob nb cn B1 bv qv ov rv Sq So Sr qn q o r) (hq : Kd.R (Kd.int .i64) 3 W1 B1 (fun k => Sq k ∨ W.heap.size ≤ k) qv1 q1) (hg : W.grownBy W1 qv.ownBlock) : RQ wl W1 N n ob nb cn B1 bv qv1 ov rv (fun k => Sq k ∨ W.heap.size ≤ k) (fun k => So k ∧ k < W.heap.size) (fun k => Sr k ∧ k < W.heap.size) qn q1 o r := by
  obtain ⟨a1, a2, a3, a4⟩ := h.h1
  have hbase := Kd.R_base h.hQ
  refine ⟨pw_below_grown h.hb _ h.hb.size hg (fun k hk => by have := hbase k hk; omega), ⟨a1, a2, Nat.le_trans a3 hg.size, a4⟩, blk_grown h.ho hg (fun e => ?_), h.hN.imp fun ys hy => ⟨hy.1, R_low hy.2 hg hbase⟩, hq, R_stay h.hO hg (fun k hk hs => h.dqo k (h.hQ.1 k hk) hs), R_stay h.hR hg (fun k hk hs => h.dqr k (h.hQ.1 k hk) hs), h.dqo.fresh _, h.dqr.fresh _, h.dor.less _⟩
  obtain ⟨cells, hc⟩ := Kd.R_typed h.hQ _ e.symm
  exact blk_ne h.ho hc (by decide) rfl
theorem RQ.appR (h : RQ wl W N n ob nb cn B1 bv qv ov rv Sq So Sr qn q o r) (hq : Kd.R (Kd.int .i64) 3 W1 B1 (fun k => Sr k ∨ W.heap.size ≤ k) rv1 r1) (hg : W.grownBy W1 rv.ownBlock) : RQ wl W1 N n ob nb cn B1 bv qv ov rv1 (fun k => Sq k ∧ k < W.heap.size) (fun k => So k ∧ k < W.heap.size) (fun k => Sr k ∨ W.heap.size ≤ k) qn q o r1 := by
  obtain ⟨a1, a2, a3, a4⟩ := h.h1
  have hbase := Kd.R_base h.hR
  refine ⟨pw_below_grown h.hb _ h.hb.size hg (fun k hk => by have := hbase k hk; omega), ⟨a1, a2, Nat.le_trans a3 hg.size, a4⟩, blk_grown h.ho hg (fun e => ?_), h.hN.imp fun ys hy => ⟨hy.1, R_low hy.2 hg hbase⟩, R_stay h.hQ hg (fun k hk hs => h.dqr k hs (h.hR.1 k hk)), R_stay h.hO hg (fun k hk hs => h.dor k hs (h.hR.1 k hk)), hq, h.dqo.less _, (h.dqr.symm.fresh _).symm, (h.dor.symm.fresh _).symm⟩
  obtain ⟨cells, hc⟩ := Kd.R_typed h.hR _ e.symm
  exact blk_ne h.ho hc (by decide) rfl
theorem RQ.appO (h : RQ wl W N n ob nb cn B1 bv qv ov rv Sq So Sr qn q o r) (hq : Kd.R (Kd.slice 3 (Kd.int .i64)) 25 W1 B1 (fun k => (So k ∨ Sr k) ∨ W.heap.size ≤ k) ov1 o1) (hg : W.grownBy W1 ov.ownBlock) : RQ wl W1 N n ob nb cn B1 bv qv ov1 (.slice none 0 0) (fun k => Sq k ∧ k < W.heap.size) (fun k => (So k ∨ Sr k) ∨ W.heap.size ≤ k) (fun _ => False) qn q o1 [] := by
  obtain ⟨a1, a2, a3, a4⟩ := h.h1
  have hbase := Kd.R_base h.hO
  refine ⟨pw_below_grown h.hb _ h.hb.size hg (fun k hk => by have := hbase k hk; omega), ⟨a1, a2, Nat.le_trans a3 hg.size, a4⟩, blk_grown h.ho hg (fun e => ?_), h.hN.imp fun ys hy => ⟨hy.1, R_low hy.2 hg hbase⟩, R_stay h.hQ hg (fun k hk hs => h.dqo k hs (h.hO.1 k hk)), hq, Kd.R_nil _ _ _ _ _, fun k ha hb => ?_, fun _ _ h => h, fun _ _ h => h⟩
  · obtain ⟨cells, hc⟩ := Kd.R_typed h.hO _ e.symm
    exact blk_ne h.ho hc (by decide) rfl
  · rcases hb with (hb | hb) | hb
    · exact h.dqo k ha.1 hb
    · exact h.dqr k ha.1 hb
    · have := ha.2; omega
theorem RQ.put (h : RQ wl W N n ob nb cn B1 bv qv ov rv Sq So Sr qn q o r) (bv1 : Value) : RQ wl (W.setCell ⟨ob, 2, none⟩ bv1) N n ob nb cn B1 bv1 qv ov rv Sq So Sr qn q o r := by
  obtain ⟨a1, a2, a3, a4⟩ := h.h1
  have hg := grown_setCell W ⟨ob, 2, none⟩ bv1
  exact ⟨pw_below_grown h.hb _ h.hb.size hg (fun k hk => by cases hk; show _ ≤ ob; omega), ⟨a1, a2, Nat.le_trans a3 hg.size, a4⟩, blk_set h.ho 2 bv1, h.hN.imp fun ys hy => ⟨hy.1, R_offrow hy.2 h.ho (by simp [Kd.int, Kd.scalar]) hg⟩, R_offrow h.hQ h.ho (by simp [Kd.int, Kd.scalar]) hg, R_offrow h.hO h.ho (by simp [Kd.slice, Kd.int, Kd.scalar]) hg, R_offrow h.hR h.ho (by simp [Kd.int, Kd.scalar]) hg, h.dqo, h.dqr, h.dor⟩
end
end Go.Proofs.Ytmphigeefppfpaa.H
namespace Go.Proofs.Ytmphigeefppfpaa.H
open Go.RowKit Go.Proofs.YtmphigeefppfpaaW.PrintWords Go.Proofs.YtmphigeefppfpaaW.PrintLast Go.Proofs.YtmphigeefppfpaaW.PrintMore
set_option linter.unusedVariables false
theorem place_snoc {q : List Int} {y : Int} (h : y ∉ q) : place y (q ++ [y]) = q.length := by
  simp [place, List.idxOf_append, h]
theorem stepR_dom {n : Nat} {l : List (List Int)} {K : List Int} (hl : tableOk n l) (hK : K.length = l.length) (hr : ∀ x ∈ K, 0 ≤ x ∧ x < (l.length : Int)) : ∀ (x : Int) (e : Nat), domS l x → e < n → (stepR l K x e).2 = true → domS l (stepR l K x e).1 := by
  intro x e hx he h
  obtain ⟨lx, rx⟩ := trow hl hx
  have hst : stepS l x e = (rd (Q.rd_L1 l x) e, decide (rd (Q.rd_L1 l x) e ≥ 0)) := rfl
  have hr1 := rx _ (rd_mem (k := e) (by omega))
  unfold stepR at h ⊢
  rw [hst] at h ⊢
  by_cases h0 : rd (Q.rd_L1 l x) e ≥ 0
  · simp only [decide_eq_true h0, if_true]
    obtain ⟨s, hs⟩ : ∃ s : Nat, rd (Q.rd_L1 l x) e = s := ⟨(rd (Q.rd_L1 l x) e).toNat, by omega⟩
    rw [hs]
    exact hr _ (rd_mem (by omega))
  · simp [h0] at h
set_option maxHeartbeats 8000000 in
set_option maxRecDepth 100000 in
theorem rleast_calls (n : Nat) (st : Int) (A : Option Addr) (cl : Nat) (l : List (List Int)) (w : World) (hr : Kd.C (Kd.slice 3 (Kd.int .i64)) w A l.length l) (hcl : l.length ≤ cl) (hl : tableOk n l) (hn : n ≤ 16) (hN0 : 1 ≤ l.length) (hN1 : l.length ≤ 5000) (hst : domS l st) :
    Calls Try.prog 50 #[.agg #[.int .i64 n, .int .i64 st, .slice A l.length cl]] w (RLeastEnd n l st w) := by
  have HR := Aside0.mk hr
  have HT := Aside0.mk hl
  have HS := Aside0.mk hst
  clear hr hl hst
  have hB := Aside0.mk (RB.mk (w := w) (n := n) (st := st) (sv := .slice A l.length cl) (rv := .slice none 0 0) (below_alloc (below_alloc (Below.refl _ _) (.cells #[.int .i64 n, .int .i64 st, .slice A l.length cl] 24)) (.cells #[.int .i64 0, .int .i64 0, .slice none 0 0] 24))
    (blk_alloc (blk_new _ _) _) (blk_at2 _ _ _))
  go_enter Try.func50, Try.ntmps50
  go_upto_region 1 with (fail)
  generalize ((w.alloc (.cells #[.int .i64 n, .int .i64 st, .slice A l.length cl] 24)).alloc (.cells #[.int .i64 0, .int .i64 0, .slice none 0 0] 24)) = w0 at *
  have hz0 : w0.cell? ⟨w.heap.size, 2, none⟩ = some (.slice A l.length cl) := (blk_cell (hB.out).hs 2).trans rfl
  go_upto_region 2 with ((with_reducible refine gate_dst (N := 18) rfl ?_); refine Kd.R_make (Kd.int .i64) w.heap.size 3 rfl (N := 18) rfl 25 _ _ rfl (l.length : Int) rfl rfl Try.underlying25 (.int .i64 0) 8 info3 rfl (by decide) (by omega) 0 (ok := fun k => w0.heap.size ≤ k) (okp := fun _ => False) rfl (fun _ hk => hk.elim) (Nat.le_refl _) (by omega) (by omega) (hB.out).hb ((hB.out).hb).size ?_; intro v1 w1 hr1 hb1 hg1 hnew1)
  rw [Int.toNat_natCast] at hr1
  have hB1 := Aside0.mk (RB.mk hb1 (blk_grown (hB.out).hs hg1 (by simp)) (blk_grown (hB.out).hr hg1 (by simp)) : RB w w1 n st (.slice A l.length cl) (.slice none 0 0))
  have HC1 := Aside0.mk hr1
  clear hb1 hg1 hr1 hnew1 hB hz0
  have hz0 : w1.cell? ⟨w.heap.size, 2, none⟩ = some (.slice A l.length cl) := (blk_cell (hB1.out).hs 2).trans rfl
  go_wp2
  clear hz0
  go_loopg [3, 22] l.length (fun gg v3 v22 wi => ∃ (k : Nat) (Sc : Nat → Prop), k ≤ l.length ∧ l.length - k ≤ gg ∧ v22 = .int .i64 k ∧ Aside0 (RB w wi n st (.slice A l.length cl) (.slice none 0 0)) ∧ Aside0 (Kd.R (Kd.int .i64) 3 wi w.heap.size Sc v3 (refCls n l k)))
  case atStart => exact ⟨0, _, by omega, by omega, rfl, hB1, HC1⟩
  case round =>
    clear hB1 HC1
    obtain ⟨k, Sc, hkl, hgg, rfl, HB, HC⟩ := hrel
    have hcl0 := refCls_len n l k
    obtain ⟨Ac, cc, hcv⟩ := Kd.R_slice HC.out
    rw [hcl0] at hcv
    subst hcv
    have HCL := Aside0.mk hcl0
    clear hcl0
    by_cases hkt : k < l.length
    · have hktz : (k : Int) < (l.length : Int) := by omega
      have hz0 : wr.cell? ⟨w.heap.size, 2, none⟩ = some (.slice A l.length cl) := (blk_cell (HB.out).hs 2).trans rfl
      go_upto_region 5 with ((with_reducible refine gate_dst (N := 27) rfl ?_); refine Kd.R_make (Kd.int .i64) w.heap.size 3 rfl (N := 27) rfl 25 _ _ rfl (l.length : Int) rfl rfl Try.underlying25 (.int .i64 0) 8 info3 rfl (by decide) (by omega) 0 (ok := fun k => wr.heap.size ≤ k) (okp := fun _ => False) rfl (fun _ hk => hk.elim) (Nat.le_refl _) (by omega) (by omega) (HB.out).hb ((HB.out).hb).size ?_; intro v3 w3 hr3 hb3 hg3 hnew3)
      rw [Int.toNat_natCast] at hr3
      obtain ⟨nb, hnb, _⟩ := hnew3
      obtain ⟨cn, hv3⟩ := R_formB hr3 hnb
      rw [List.length_replicate] at hv3
      subst hv3
      have hB3 := Aside0.mk (RB.mk hb3 (blk_grown (HB.out).hs hg3 (by simp)) (blk_grown (HB.out).hr hg3 (by simp)) : RB w w3 n st (.slice A l.length cl) (.slice none 0 0))
      have HN3 := Aside0.mk hr3
      have HC3 := Aside0.mk (R_stay HC.out hg3 (by simp))
      have HD3 := Aside0.mk (show Disj (fun k => Sc k ∧ k < wr.heap.size) (fun k => wr.heap.size ≤ k) from fun k ha hb => by have := ha.2; omega)
      clear hb3 hg3 hr3 hnb HB HC hz0
      generalize (fun k => Sc k ∧ k < wr.heap.size) = Sc3 at *
      generalize (fun k => wr.heap.size ≤ k) = Sn3 at *
      have hz0 : w3.cell? ⟨w.heap.size, 2, none⟩ = some (.slice A l.length cl) := (blk_cell (hB3.out).hs 2).trans rfl
      go_wp2
      clear hz0
      go_loopg [31] l.length (fun gg2 v31 wi => ∃ (q : Nat) (Sc Sn : Nat → Prop), q ≤ l.length ∧ l.length - q ≤ gg2 ∧ v31 = .int .i64 q ∧ Aside0 (RB w wi n st (.slice A l.length cl) (.slice none 0 0)) ∧ Aside0 (Disj Sc Sn) ∧ Aside0 (Kd.R (Kd.int .i64) 3 wi w.heap.size Sc (.slice Ac l.length cc) (refCls n l k)) ∧
        Aside0 (Kd.R (Kd.int .i64) 3 wi w.heap.size Sn (.slice (some ⟨nb, 0, none⟩) l.length cn) (refNext n l (refCls n l k) q ++ List.replicate (l.length - q) 0)))
      case atStart => exact ⟨0, Sc3, Sn3, by omega, by omega, rfl, hB3, HD3, HC3, HN3⟩
      case round =>
        clear hB3 HD3 HC3 HN3
        obtain ⟨q, Sc, Sn, hql, hg2, rfl, HB, HD, HC, HN⟩ := hrel
        by_cases hqt : q < l.length
        · have hqtz : (q : Int) < (l.length : Int) := by omega
          have hrl := refNext_len n l (refCls n l k) q
          obtain ⟨hc1, hf1⟩ := Kd.R_celln 0 HN.out (q : Int) (by omega) (by omega)
          rw [Int.toNat_natCast] at hc1 hf1
          have HPUT := Kd.R_putg HN.out (q : Int) (q : Int)
          rw [Int.toNat_natCast, set_next hrl hqt] at HPUT
          have HRL := Aside0.mk hrl
          have HNB := Aside0.mk (HN.out.1 nb rfl)
          clear hrl
          go_upto_region 10 with (fail)
          have hB5 := Aside0.mk ((HB.out).own HN.out (by decide) HPUT.2)
          have HC5 := Aside0.mk (R_stay HC.out HPUT.2 (fun k hk => by cases hk; exact fun h => (HD.out) _ h HNB.out))
          have HN5 := Aside0.mk HPUT.1
          have HD5 := Aside0.mk (show Disj (fun k => Sc k ∧ k < wr.heap.size) Sn from fun k ha hb => HD.out k ha.1 hb)
          clear HB HC HN HD HPUT hc1 hf1
          generalize (wr.setCell ⟨nb, q, none⟩ (Value.int .i64 (q : Int))) = w5 at *
          generalize (fun k => Sc k ∧ k < wr.heap.size) = Sc5 at *
          go_loopg [6] q (fun gg3 v6 wi => ∃ (d : Nat) (t : Int) (Sc Sn : Nat → Prop), d ≤ q ∧ q - d ≤ gg3 ∧ v6 = .int .i64 t ∧ -1 ≤ t ∧ t < (q : Int) ∧ Aside0 (t = (q : Int) - 1 - d) ∧ Aside0 (RB w wi n st (.slice A l.length cl) (.slice none 0 0)) ∧ Aside0 (Disj Sc Sn) ∧ Aside0 (Kd.R (Kd.int .i64) 3 wi w.heap.size Sc (.slice Ac l.length cc) (refCls n l k)) ∧
            Aside0 (Kd.R (Kd.int .i64) 3 wi w.heap.size Sn (.slice (some ⟨nb, 0, none⟩) l.length cn) ((refNext n l (refCls n l k) q ++ [(lowTo (relB n l (refCls n l k) q) q d : Int)]) ++ List.replicate (l.length - (q + 1)) 0)))
          case atStart => exact ⟨0, (q : Int) - 1, Sc5, Sn, by omega, by omega, rfl, by omega, by omega, ⟨by omega⟩, hB5, HD5, HC5, HN5⟩
          case round =>
            clear hB5 HD5 HC5 HN5 HNB Sc5 Sc Sn
            obtain ⟨d, t, Sc, Sn, hdq, hg3, rfl, ht0, ht1, HTD, HB, HD, HC, HN⟩ := hrel
            by_cases htn : 0 ≤ t
            · have htd : decide (t ≥ 0) = true := by simpa using htn
              obtain ⟨p, rfl⟩ : ∃ p : Nat, t = (p : Int) := ⟨t.toNat, by omega⟩
              have HPD := Aside0.mk (show p = q - 1 - d by have := HTD.out; omega)
              have hdlt : d < q := by have := HTD.out; omega
              have hlow := Aside0.mk (show lowTo (relB n l (refCls n l k) q) q (d + 1) = if relB n l (refCls n l k) q p then p else lowTo (relB n l (refCls n l k) q) q d from by rw [HPD.out]; rfl)
              have hclen := HCL.out
              obtain ⟨adc, e0, hxp⟩ := Kd.at_int (Kd.R_reads' HC.out).2.2 (p : Int) (by omega) (by omega)
              cases e0
              obtain ⟨_, e0, hxq⟩ := Kd.at_int (Kd.R_reads' HC.out).2.2 (q : Int) (by omega) (by omega)
              cases e0
              rw [Int.toNat_natCast] at hxp hxq
              clear hclen
              have hpz : (p : Int) < (l.length : Int) := by omega
              by_cases hcc : rd (refCls n l k) (p : Int) = rd (refCls n l k) (q : Int)
              · have hd1 : (rd (refCls n l k) (p : Int) == rd (refCls n l k) (q : Int)) = true := beq_iff_eq.2 hcc
                have HRB := Aside0.mk (show relB n l (refCls n l k) q p = alikeB n l (refCls n l k) p q from by rw [relB, decide_eq_true hcc, Bool.true_and])
                clear hcc
                have HAL := Aside0.mk fun W (hW : Below w.heap.size w W) (hC : Kd.R (Kd.int .i64) 3 W w.heap.size Sc (.slice (some adc) l.length cc) (refCls n l k)) =>
                  alike_calls n st A cl l p q (some adc) cc (refCls n l k) W (Kd.C_below HR.out hW) hcl (by have h := (Kd.R_reads' hC).2.2; have e := HCL.out; rw [e]; rw [e] at h; exact h) (by rw [HCL.out]; exact (Kd.R_reads' hC).2.1) HT.out (by omega) HCL.out ⟨by omega, by omega⟩ ⟨by omega, by omega⟩
                rw [HCL.out] at HAL
                generalize alikeB n l (refCls n l k) p q = al at *
                have HB0 := (HB.out).below (W1 := wr.drew) (below_drew (Below.refl _ _))
                have HC0 := Kd.R_drew HC.out
                have HN0 := Kd.R_drew HN.out
                go_wp2
                go_region_held3 (fun w' => (w'.cell? (adc.add p) = some (.int .i64 (rd (refCls n l k) (p : Int))) ∧ w'.cell? (adc.add q) = some (.int .i64 (rd (refCls n l k) (q : Int)))) ∧ (w'.cell? ⟨w.heap.size, 0, none⟩ = some (.int .i64 n) ∧ w'.cell? ⟨w.heap.size, 1, none⟩ = some (.int .i64 st) ∧ w'.cell? ⟨w.heap.size, 2, none⟩ = some (.slice A l.length cl)))
                  (exact ref_held (by assumption) (by assumption) HCL.out (by omega) (by omega))
                  (first
                    | (go_at_call 66; refine (HAL.out _ HB0.hb HC0).mono ?_; rintro E w6 ⟨rfl, hb⟩; have HB1 := HB0.below hb; have HC1 := Kd.R_below HC0 hb; have HN1 := Kd.R_below HN0 hb; clear hb HB0 HC0 HN0))
                cases al
                · go_wp2
                  go_roundg (q - (d + 1))
                  case measure => omega
                  case rel =>
                    refine ⟨d + 1, (p : Int) - 1, Sc, Sn, by omega, by omega, rfl, by omega, by omega, ⟨by have := HTD.out; omega⟩, ⟨HB1⟩, HD, ⟨HC1⟩, ?_⟩
                    rw [hlow.out, HRB.out]
                    exact ⟨HN1⟩
                · obtain ⟨hc1, hf1⟩ := Kd.R_celln 0 HN1 (q : Int) (by omega) (by omega)
                  rw [Int.toNat_natCast] at hc1 hf1
                  have HPUT := Kd.R_putg HN1 (q : Int) (p : Int)
                  rw [Int.toNat_natCast, set_last HRL.out] at HPUT
                  have HB2 := Aside0.mk (HB1.own HN1 (by decide) HPUT.2)
                  have HC2 := Aside0.mk (R_stay HC1 HPUT.2 (fun k hk => by cases hk; exact fun h => HD.out _ h (HN1.1 nb rfl)))
                  have HN2 := Aside0.mk HPUT.1
                  have HD2 := Aside0.mk (show Disj (fun k => Sc k ∧ k < w6.heap.size) Sn from fun k ha hb => HD.out k ha.1 hb)
                  clear HB1 HC1 HN1 HD HPUT
                  go_wp2
                  go_roundg (q - (d + 1))
                  case measure => omega
                  case rel =>
                    refine ⟨d + 1, (p : Int) - 1, fun k => Sc k ∧ k < w6.heap.size, Sn, by omega, by omega, rfl, by omega, by omega, ⟨by have := HTD.out; omega⟩, HB2, HD2, HC2, ?_⟩
                    rw [hlow.out, HRB.out]
                    exact HN2
              · have hd1 : (rd (refCls n l k) (p : Int) == rd (refCls n l k) (q : Int)) = false := beq_eq_false_iff_ne.2 hcc
                have HRB := Aside0.mk (show relB n l (refCls n l k) q p = false from by rw [relB, decide_eq_false hcc, Bool.false_and])
                clear hcc
                go_wp2
                repeat (go_quiet (fail); try go_wp2)
                go_roundg (q - (d + 1))
                case measure => omega
                case rel =>
                  refine ⟨d + 1, (p : Int) - 1, Sc, Sn, by omega, by omega, rfl, by omega, by omega, ⟨by have := HTD.out; omega⟩, ⟨(HB.out).below (pw_below_drewN (Below.refl _ _) _)⟩, HD, ⟨Kd.R_drewN HC.out _⟩, ?_⟩
                  rw [hlow.out, HRB.out]
                  exact ⟨Kd.R_drewN HN.out _⟩
            · have htd : decide (t ≥ 0) = false := by simpa using htn
              have HDQ := Aside0.mk (show d = q by have := HTD.out; omega)
              go_wp2
              go_roundg (l.length - (q + 1))
              case measure => omega
              case rel =>
                refine ⟨q + 1, Sc, Sn, by omega, by omega, by go_num, HB, HD, HC, ?_⟩
                rw [HDQ.out] at HN
                exact HN
        · have hqtz : ¬ (q : Int) < (l.length : Int) := by omega
          obtain rfl : q = l.length := by omega
          rw [Nat.sub_self, List.replicate_zero, List.append_nil] at HN
          go_wp2
          go_roundg (l.length - (k + 1))
          case measure => omega
          case rel => exact ⟨k + 1, Sn, by omega, by omega, by go_num, HB, HN⟩
    · have hktz : ¬ (k : Int) < (l.length : Int) := by omega
      obtain rfl : k = l.length := by omega
      have HKR := Aside0.mk (refCls_range n l hN0 l.length)
      have HKC := Aside0.mk (Kd.R_reads' HC.out)
      have HRL := Aside0.mk (show rleastOf n l st = (bfsTo n (stepR l (refCls n l l.length)) (rd (refCls n l l.length) st) l.length).1 from rfl)
      clear HC Sc
      generalize refCls n l l.length = K at *
      have HWL := Aside0.mk ((HB.out).hb).size
      generalize wr = WL at *
      have hz0 : WL.cell? ⟨w.heap.size, 2, none⟩ = some (.slice A l.length cl) := (blk_cell (HB.out).hs 2).trans rfl
      go_upto_region 18 with ((with_reducible refine gate_dst (N := 70) rfl ?_); refine Kd.R_make (Kd.int .i64) WL.heap.size 3 rfl (N := 70) rfl 25 _ _ rfl (l.length : Int) rfl rfl Try.underlying25 (.int .i64 0) 8 info3 rfl (by decide) (by omega) 0 (ok := fun k => WL.heap.size ≤ k) (okp := fun _ => False) rfl (fun _ hk => hk.elim) (Nat.le_refl _) (by omega) (by omega) (Below.refl WL.heap.size WL) (Nat.le_refl _) ?_; intro v7 w7 hr7 hb7 hg7 hnew7)
      rw [Int.toNat_natCast] at hr7
      obtain ⟨nb, hnb, hnb2⟩ := hnew7
      obtain ⟨cn, hv7⟩ := R_formB hr7 hnb
      rw [List.length_replicate] at hv7
      subst hv7
      have HN7 := Aside0.mk (Kd.R_mono (Kd.R_bound hr7) (fun k hk => (hk.2.2.1 : k < w7.heap.size)))
      have HNB := Aside0.mk (show WL.heap.size ≤ nb ∧ nb < w7.heap.size from ⟨hnb2, (HN7.out).1 nb rfl⟩)
      have HB7 := Aside0.mk hb7
      clear hr7 hb7 hg7 hnb hnb2 hz0
      generalize hB1 : w7.heap.size = B1 at *
      have HB1 := Aside0.mk (show B1 ≤ w7.heap.size by omega)
      clear hB1
      go_wp2
      go_loopg [73] l.length (fun gg v73 wi => ∃ (q : Nat), q ≤ l.length ∧ l.length - q ≤ gg ∧ v73 = .int .i64 q ∧ Aside0 (B1 ≤ wi.heap.size) ∧ Aside0 (Below WL.heap.size WL wi) ∧ Aside0 (Kd.R (Kd.int .i64) 3 wi WL.heap.size (fun k => k < B1) (.slice (some ⟨nb, 0, none⟩) l.length cn) (List.replicate q (-1) ++ List.replicate (l.length - q) 0)))
      case atStart => exact ⟨0, by omega, by omega, rfl, HB1, HB7, HN7⟩
      case round =>
        clear HB1 HB7 HN7
        obtain ⟨q, hql, hgg, rfl, HB1, HB7, HN⟩ := hrel
        by_cases hqt : q < l.length
        · have hqtz : (q : Int) < (l.length : Int) := by omega
          obtain ⟨hc1, hf1⟩ := Kd.R_celln 0 HN.out (q : Int) (by omega) (by omega)
          rw [Int.toNat_natCast] at hc1 hf1
          have HPUT := Kd.R_putg HN.out (q : Int) (-1)
          rw [Int.toNat_natCast, set_next (by simp) hqt, ← List.replicate_succ'] at HPUT
          have HPUT := Aside0.mk HPUT
          go_wp2
          go_roundg (l.length - (q + 1))
          case measure => omega
          case rel => exact ⟨q + 1, by omega, by omega, by go_num, ⟨Nat.le_trans HB1.out (HPUT.out).2.size⟩, ⟨pw_below_grown HB7.out _ (HB7.out).size (HPUT.out).2 (fun k hk => by cases hk; exact (HNB.out).1)⟩, ⟨(HPUT.out).1⟩⟩
        · have hqtz : ¬ (q : Int) < (l.length : Int) := by omega
          obtain rfl : q = l.length := by omega
          rw [Nat.sub_self, List.replicate_zero, List.append_nil] at HN
          have HKL := Aside0.mk (show K.length = l.length from HCL.out)
          have hst0 := (HS.out).1
          have hst1 := (HS.out).2
          obtain ⟨adc, e0, hxs⟩ := Kd.at_int (Kd.C_below (HKC.out).2.2 HB7.out) st hst0 (by have := HKL.out; omega)
          cases e0
          have hz1 : wr.cell? ⟨w.heap.size, 1, none⟩ = some (.int .i64 st) := (blk_cell (blk_below (HB.out).hs HB7.out) 1).trans rfl
          have hkr := HKR.out (rd K st) (by obtain ⟨s, hs⟩ : ∃ s : Nat, st = s := ⟨st.toNat, by omega⟩; rw [hs]; exact rd_mem (by have := HKL.out; omega))
          obtain ⟨c0, hc0⟩ : ∃ c0 : Nat, rd K st = c0 := ⟨(rd K st).toNat, by omega⟩
          rw [hc0] at hxs hkr HRL
          have HC0 := Aside0.mk hc0
          clear hc0
          go_upto_region 24 with (fail)
          have HQ9 := Aside0.mk (R_new1 wr c0 B1 HB1.out)
          have HN9 := Aside0.mk (Kd.R_alloc HN.out (.cells #[.int .i64 (c0 : Int)] 3))
          have HB9 := Aside0.mk (below_alloc HB7.out (.cells #[.int .i64 (c0 : Int)] 3))
          have HS9 := Aside0.mk (show B1 ≤ wr.heap.size from HB1.out)
          have HS9' := Aside0.mk (show B1 ≤ (wr.alloc (.cells #[.int .i64 (c0 : Int)] 3)).heap.size by have := HB1.out; simp; omega)
          clear hxs hz1 HN HB7 HB1
          generalize (wr.alloc (.cells #[.int .i64 (c0 : Int)] 3)) = w9 at *
          generalize wr.heap.size = qb at *
          obtain ⟨adc2, e0, hxs⟩ := Kd.at_int (Kd.C_below (HKC.out).2.2 HB9.out) st hst0 (by have := HKL.out; omega)
          cases e0
          rw [HC0.out] at hxs
          have hz1 : w9.cell? ⟨w.heap.size, 1, none⟩ = some (.int .i64 st) := (blk_cell (blk_below (HB.out).hs HB9.out) 1).trans rfl
          obtain ⟨hc1, hf1⟩ := Kd.R_celln 0 HN9.out (c0 : Int) (by omega) (by omega)
          rw [Int.toNat_natCast] at hc1 hf1
          have HPUT := Kd.R_putg HN9.out (c0 : Int) 0
          rw [Int.toNat_natCast] at HPUT
          have HPUT := Aside0.mk HPUT
          go_upto_region 25 with (fail)
          have HB10 := Aside0.mk (pw_below_grown HB9.out _ (HB9.out).size (HPUT.out).2 (fun k hk => by cases hk; exact (HNB.out).1))
          have HQ10 := Aside0.mk (R_high HQ9.out (HPUT.out).2 (fun k hk => by cases hk; exact (HNB.out).2))
          have HS10 := Aside0.mk (Nat.le_trans HS9'.out (HPUT.out).2.size)
          have HN10 := Aside0.mk (HPUT.out).1
          clear HB9 HQ9 HN9 HPUT HS9 HS9' hxs hz1 hc1 hf1
          generalize (w9.setCell ⟨nb, c0, none⟩ (.int .i64 0)) = w10 at *
          have hz1 : w10.cell? ⟨w.heap.size, 0, none⟩ = some (.int .i64 n) := (blk_cell (blk_below (HB.out).hs HB10.out) 0).trans rfl
          go_upto_region 26 with (fail)
          have HRQ := Aside0.mk (RQ.mk (wl := WL) (W := w10.alloc (.cells #[.int .i64 n, .int .i64 0, .slice none 0 0] 24)) (N := l.length) (n := n) (ob := w10.heap.size) (nb := nb) (cn := cn) (B1 := B1) (bv := .slice none 0 0) (qv := .slice (some ⟨qb, 0, none⟩) 1 1) (ov := .slice none 0 0) (rv := .slice none 0 0) (Sq := fun k => k = qb) (So := fun _ => False) (Sr := fun _ => False) (qn := [(c0 : Int)]) (q := [(c0 : Int)]) (o := []) (r := [])
            (below_alloc HB10.out _) ⟨(HNB.out).1, (HNB.out).2, by have := HS10.out; simp; omega, HS10.out⟩ (blk_new _ _) ⟨_, NumIs.start (by omega), Kd.R_alloc HN10.out _⟩ (Kd.R_alloc HQ10.out _) (Kd.R_nil _ _ _ _ _) (Kd.R_nil _ _ _ _ _) (fun _ _ h => h) (fun _ _ h => h) (fun _ _ h => h))
          clear HB10 HQ10 HS10 HN10 hz1
          generalize (w10.alloc (.cells #[.int .i64 n, .int .i64 0, .slice none 0 0] 24)) = w11 at *
          generalize w10.heap.size = ob at *
          have HSTEP := Aside0.mk (stepR_dom HT.out HKL.out HKR.out)
          have HD0 := Aside0.mk (show domS l (c0 : Int) from hkr)
          have HQSZ := Aside0.mk (fun i => bfs_size' (n := n) (D := domS l) (fun x hx => hx) HSTEP.out HD0.out i)
          clear hst0 hst1 hkr HS HC0
          go_wp2
          go_loopg [9, 11] l.length (fun gg v9 v11 wi => ∃ (i : Nat) (ov : Value) (Sq So : Nat → Prop), i ≤ l.length ∧ l.length - i ≤ gg ∧ v11 = .int .i64 i ∧
            Aside0 (RQ WL wi l.length n ob nb cn B1 ov v9 ov (.slice none 0 0) Sq So (fun _ => False) (bfsTo n (stepR l K) (c0 : Int) i).2 (bfsTo n (stepR l K) (c0 : Int) i).2 (bfsTo n (stepR l K) (c0 : Int) i).1 []))
          case atStart => exact ⟨0, _, _, _, by omega, by omega, rfl, HRQ⟩
          case round =>
            clear HRQ
            obtain ⟨i, ov, Sq, So, him, hgg, rfl, HRQ⟩ := hrel
            obtain ⟨A9, c9, rfl⟩ := Kd.R_slice (HRQ.out).hQ
            have hsz := HQSZ.out i
            by_cases hlt : i < (bfsTo n (stepR l K) (c0 : Int) i).2.length
            · have hltz : (i : Int) < ((bfsTo n (stepR l K) (c0 : Int) i).2.length : Int) := by omega
              have HST := Aside0.mk (bfsTo_step (n := n) (step := stepR l K) (start := (c0 : Int)) hlt)
              have HXD := Aside0.mk (bfsTo_all (n := n) (D := domS l) HSTEP.out HD0.out i _ (List.getElem_mem hlt))
              have HQD := Aside0.mk (bfsTo_all (n := n) (D := domS l) HSTEP.out HD0.out i)
              have HOL := Aside0.mk (bfsTo_out (n := n) (step := stepR l K) (start := (c0 : Int)) (i := i))
              have HQM := Aside0.mk (HQSZ.out (i + 1))
              rw [HST.out] at HQM
              have him2 : i + 1 ≤ l.length := by omega
              have hqx := rd_at hlt
              generalize (bfsTo n (stepR l K) (c0 : Int) i).2[i] = x at *
              generalize (bfsTo n (stepR l K) (c0 : Int) i).2 = q at *
              generalize (bfsTo n (stepR l K) (c0 : Int) i).1 = o at *
              obtain ⟨adq, e0, hx⟩ := Kd.at_int (Kd.R_reads' (HRQ.out).hQ).2.2 (i : Int) (by omega) hltz
              cases e0
              rw [Int.toNat_natCast, hqx] at hx
              have hx0 := (HXD.out).1
              have hx1 := (HXD.out).2
              have HXX := Aside0.mk hqx
              clear hqx
              obtain ⟨adl, Ar, cr, e0, hxr0, hlr, hrr⟩ := Q.at_L1 HR.out x hx0 hx1
              cases e0
              have hxr := pw_cell_below (below_then (HB.out).hb HWL.out (HRQ.out).hb) hxr0
              have HRR := Aside0.mk hrr
              have hz1 : wr.cell? ⟨w.heap.size, 2, none⟩ = some (.slice (some adl) l.length cl) := (blk_cell (blk_below (HB.out).hs (HRQ.out).hb) 2).trans rfl
              clear hrr hxr0
              go_wp2
              repeat (go_quiet (fail); try go_wp2)
              have HRN := Aside0.mk ((HRQ.out).drewN nq)
              obtain ⟨hyl, hyr⟩ := trow HT.out ⟨hx0, hx1⟩
              have HSX := Aside0.mk (show ∀ e, stepR l K x e = if rd (Q.rd_L1 l x) e ≥ 0 then (rd K (rd (Q.rd_L1 l x) e), true) else (0, false) from fun e => by
                have hst : stepS l x e = (rd (Q.rd_L1 l x) e, decide (rd (Q.rd_L1 l x) e ≥ 0)) := rfl
                unfold stepR
                rw [hst]
                simp only [decide_eq_true_eq])
              have HYR := Aside0.mk hyr
              have HYL := Aside0.mk hyl
              clear hyl hyr HRQ hxr hz1 hx HXX
              generalize Q.rd_L1 l x = y at *
              generalize (wr.drewN nq) = w12 at *
              go_loopg [9, 12, 111] n (fun gk v9 v12 v111 wi => ∃ (e : Nat) (Sq So Sr : Nat → Prop), e ≤ n ∧ n - e ≤ gk ∧ v111 = .int .i64 e ∧
                Aside0 (RQ WL wi l.length n ob nb cn B1 ov v9 ov v12 Sq So Sr (rowTo (stepR l K) x q e).2 (rowTo (stepR l K) x q e).2 o (rowTo (stepR l K) x q e).1))
              case atStart => exact ⟨0, _, _, _, by omega, by omega, rfl, HRN⟩
              case round =>
                clear HRN Sq So
                obtain ⟨e, Sq, So, Sr, hen, hgk, rfl, HRQ⟩ := hrel
                obtain ⟨A9, c9, rfl⟩ := Kd.R_slice (HRQ.out).hQ
                obtain ⟨A12, c12, rfl⟩ := Kd.R_slice (HRQ.out).hR
                by_cases hle : e < n
                · have hlez : (e : Int) < (y.length : Int) := by have := HYL.out; omega
                  obtain ⟨adr, e0, hxe⟩ := Kd.at_int (Kd.C_below HRR.out (below_then (HB.out).hb HWL.out (HRQ.out).hb)) (e : Int) (by omega) hlez
                  cases e0
                  rw [Int.toNat_natCast] at hxe
                  have HRS := Aside0.mk (show rowTo (stepR l K) x q (e + 1) = if (stepR l K x e).2 then ((rowTo (stepR l K) x q e).1 ++ [(place (stepR l K x e).1 (rowTo (stepR l K) x q e).2 : Int)], ins (rowTo (stepR l K) x q e).2 (stepR l K x e).1) else ((rowTo (stepR l K) x q e).1 ++ [-1], (rowTo (stepR l K) x q e).2) from rfl)
                  rw [HSX.out] at HRS
                  have HYE := Aside0.mk (HYR.out _ (rd_mem (k := e) (by have := HYL.out; omega)))
                  have hql := Nat.le_trans (rowTo_mono (step := stepR l K) (x := x) (q := q) (e := e) (e' := n) (by omega)) HQM.out
                  have hrl : (rowTo (stepR l K) x q e).1.length = e := rowTo_len
                  generalize rd y (e : Int) = r at *
                  by_cases hneg : r < 0
                  · have hge : decide (r ≥ 0) = false := by simpa using hneg
                    obtain rfl : r = -1 := by have := (HYE.out).1; omega
                    rw [if_neg (show ¬ (-1 : Int) ≥ 0 by omega)] at HRS
                    simp only [Bool.false_eq_true, if_false] at HRS
                    clear hneg hge
                    have hlr2 : ((rowTo (stepR l K) x q e).1.length + 1) * 8 ≤ 140737488355328 := by omega
                    clear hrl
                    generalize (rowTo (stepR l K) x q e).2 = qe at *
                    generalize (rowTo (stepR l K) x q e).1 = re at *
                    go_wp2_with ((with_reducible refine gate_builtin (b := .append) (xs := #[.tmp 139, .tmp 141]) rfl ?_); at_builtin; refine Kd.R_append (Kd.int .i64) (w0 := wr) B1 rfl (.tmp 139) (.tmp 141) 25 3 (.int .i64 0) 8 rfl Try.underlying25 info3 rfl (by decide) (by omega) (.slice A12 re.length c12) re (-1) [.int .i64 (-1)] (fun k => Sr k ∨ wr.heap.size ≤ k) (fun _ => False) rfl rfl rfl (fun _ hk => hk.elim) (fun k hk => .inr hk) (Kd.R_mono (HRQ.out).hR (fun _ hk => .inl hk)) (Below.refl B1 wr) ((HRQ.out).h1).2.2.1 hlr2 ?_; intro v5 w5 ho5 hb5 hg5 hat5; have HRQ5 := Aside0.mk ((HRQ.out).appR ho5 hg5); clear ho5 hb5 hg5 hat5 HRQ)
                    go_roundg (n - (e + 1))
                    case measure => omega
                    case rel =>
                      refine ⟨e + 1, fun k => Sq k ∧ k < wr.heap.size, fun k => So k ∧ k < wr.heap.size, fun k => Sr k ∨ wr.heap.size ≤ k, by omega, by omega, by go_num, ?_⟩
                      rw [HRS.out]
                      exact HRQ5
                  · have hge : decide (r ≥ 0) = true := by simpa using hneg
                    rw [if_pos (show r ≥ 0 by omega)] at HRS
                    simp only [if_true] at HRS
                    have hr0 : 0 ≤ r := by omega
                    have hr1 := (HYE.out).2
                    obtain ⟨_, e0, hxc⟩ := Kd.at_int (Kd.C_below (HKC.out).2.2 (HRQ.out).hb) r hr0 (by have := HKL.out; omega)
                    cases e0
                    have hkr := HKR.out (rd K r) (by obtain ⟨s, hs⟩ : ∃ s : Nat, r = s := ⟨r.toNat, by omega⟩; rw [hs]; exact rd_mem (by have := HKL.out; omega))
                    obtain ⟨p, hp⟩ : ∃ p : Nat, rd K r = p := ⟨(rd K r).toNat, by omega⟩
                    rw [hp] at hxc HRS hkr
                    clear hp hneg
                    have hpN : p < l.length := by omega
                    have hlr2 : ((rowTo (stepR l K) x q e).1.length + 1) * 8 ≤ 140737488355328 := by omega
                    clear hrl
                    generalize (rowTo (stepR l K) x q e).2 = qe at *
                    generalize (rowTo (stepR l K) x q e).1 = re at *
                    obtain ⟨ys, hys, hny⟩ := (HRQ.out).hN
                    have hpv := hys.2 p hpN
                    obtain ⟨hc1, hf1⟩ := Kd.R_celln 0 hny (p : Int) (by omega) (by omega)
                    rw [Int.toNat_natCast] at hc1 hf1
                    rw [show rdOf 0 ys (p : Int) = rd ys (p : Int) from rfl, hpv] at hc1
                    clear hpv
                    by_cases hm : (p : Int) ∈ qe
                    · rw [if_pos hm] at hc1
                      rw [ins, if_pos hm] at HRS
                      clear hm hf1 hny hys
                      generalize place (p : Int) qe = kk at *
                      have hne : ((kk : Int) == -1) = false := beq_eq_false_iff_ne.2 (by omega)
                      go_wp2_with ((with_reducible refine gate_builtin (b := .append) (xs := #[.tmp 139, .tmp 141]) rfl ?_); at_builtin; refine Kd.R_append (Kd.int .i64) (w0 := wr) B1 rfl (.tmp 139) (.tmp 141) 25 3 (.int .i64 0) 8 rfl Try.underlying25 info3 rfl (by decide) (by omega) (.slice A12 re.length c12) re ((kk : Int)) [.int .i64 ((kk : Int))] (fun k => Sr k ∨ wr.heap.size ≤ k) (fun _ => False) rfl rfl rfl (fun _ hk => hk.elim) (fun k hk => .inr hk) (Kd.R_mono (HRQ.out).hR (fun _ hk => .inl hk)) (Below.refl B1 wr) ((HRQ.out).h1).2.2.1 hlr2 ?_; intro v5 w5 ho5 hb5 hg5 hat5; have HRQ5 := Aside0.mk ((HRQ.out).appR ho5 hg5); clear ho5 hb5 hg5 hat5 HRQ)
                      go_roundg (n - (e + 1))
                      case measure => omega
                      case rel =>
                        refine ⟨e + 1, fun k => Sq k ∧ k < wr.heap.size, fun k => So k ∧ k < wr.heap.size, fun k => Sr k ∨ wr.heap.size ≤ k, by omega, by omega, by go_num, ?_⟩
                        rw [HRS.out]
                        exact HRQ5
                    · rw [if_neg hm] at hc1
                      rw [ins, if_neg hm] at HRS
                      have HPL := Aside0.mk (place_new hm)
                      have HPUT := Kd.R_putg hny (p : Int) (qe.length : Int)
                      rw [Int.toNat_natCast] at HPUT
                      have HRQ2 := Aside0.mk ((HRQ.out).write (hys.put hpN hm) HPUT.1 HPUT.2)
                      have HMQ := Aside0.mk hm
                      clear hny hys HPUT hm HRQ
                      go_upto_region 37 with (fail)
                      clear hc1 hf1 hxc hxe
                      generalize (wr.setCell ⟨nb, p, none⟩ (.int .i64 (qe.length : Int))) = w13 at *
                      have hlq2 : (qe.length + 1) * 8 ≤ 140737488355328 := by omega
                      go_upto_region 38 with ((with_reducible refine gate_builtin (b := .append) (xs := #[.tmp 131, .tmp 133]) rfl ?_); at_builtin; refine Kd.R_append (Kd.int .i64) (w0 := w13) B1 rfl (.tmp 131) (.tmp 133) 25 3 (.int .i64 0) 8 rfl Try.underlying25 info3 rfl (by decide) (by omega) (.slice A9 qe.length c9) qe (p : Int) [.int .i64 (p : Int)] (fun k => Sq k ∨ w13.heap.size ≤ k) (fun _ => False) rfl rfl rfl (fun _ hk => hk.elim) (fun k hk => .inr hk) (Kd.R_mono (HRQ2.out).hQ (fun _ hk => .inl hk)) (Below.refl B1 w13) ((HRQ2.out).h1).2.2.1 hlq2 ?_; intro v4 w4 ho5 hb5 hg5 hat5; have HRQ4 := Aside0.mk ((HRQ2.out).appQ ho5 hg5); clear ho5 hb5 hg5 hat5 HRQ2)
                      obtain ⟨ys, hys, hny⟩ := (HRQ4.out).hN
                      have hpv := hys.2 p hpN
                      rw [if_pos (by simp), place_snoc HMQ.out] at hpv
                      obtain ⟨hc1, hf1⟩ := Kd.R_celln 0 hny (p : Int) (by omega) (by omega)
                      rw [Int.toNat_natCast] at hc1
                      rw [show rdOf 0 ys (p : Int) = rd ys (p : Int) from rfl, hpv] at hc1
                      rw [HPL.out] at HRS
                      clear hpv hf1 hny hys HMQ HPL
                      go_wp2_with ((with_reducible refine gate_builtin (b := .append) (xs := #[.tmp 139, .tmp 141]) rfl ?_); at_builtin; refine Kd.R_append (Kd.int .i64) (w0 := w4) B1 rfl (.tmp 139) (.tmp 141) 25 3 (.int .i64 0) 8 rfl Try.underlying25 info3 rfl (by decide) (by omega) (.slice A12 re.length c12) re ((qe.length : Int)) [.int .i64 ((qe.length : Int))] (fun k => (fun k => Sr k ∧ k < w13.heap.size) k ∨ w4.heap.size ≤ k) (fun _ => False) rfl rfl rfl (fun _ hk => hk.elim) (fun k hk => .inr hk) (Kd.R_mono (HRQ4.out).hR (fun _ hk => .inl hk)) (Below.refl B1 w4) ((HRQ4.out).h1).2.2.1 hlr2 ?_; intro v5 w5 ho5 hb5 hg5 hat5; have HRQ5 := Aside0.mk ((HRQ4.out).appR ho5 hg5); clear ho5 hb5 hg5 hat5 HRQ4)
                      go_roundg (n - (e + 1))
                      case measure => omega
                      case rel =>
                        refine ⟨e + 1, fun k => (Sq k ∨ w13.heap.size ≤ k) ∧ k < w4.heap.size, fun k => (So k ∧ k < w13.heap.size) ∧ k < w4.heap.size, fun k => (Sr k ∧ k < w13.heap.size) ∨ w4.heap.size ≤ k, by omega, by omega, by go_num, ?_⟩
                        rw [HRS.out]
                        exact HRQ5
                · have hlez : ¬ (e : Int) < (y.length : Int) := by have := HYL.out; omega
                  have hen2 : e = n := by omega
                  have HEN := Aside0.mk hen2
                  clear hen2
                  have HST2 := Aside0.mk (show (bfsTo n (stepR l K) (c0 : Int) (i + 1)).1 = o ++ [(rowTo (stepR l K) x q e).1] ∧ (bfsTo n (stepR l K) (c0 : Int) (i + 1)).2 = (rowTo (stepR l K) x q e).2 from by rw [HST.out, HEN.out]; exact ⟨rfl, rfl⟩)
                  clear HST
                  generalize (rowTo (stepR l K) x q e).2 = qe at *
                  generalize (rowTo (stepR l K) x q e).1 = re at *
                  have hlo : (o.length + 1) * 24 ≤ 140737488355328 := by have := HOL.out; omega
                  obtain ⟨Ao, co, rfl⟩ := Kd.R_slice (HRQ.out).hO
                  have hz2 : wr.cell? ⟨ob, 2, none⟩ = some (.slice Ao o.length co) := (blk_cell (HRQ.out).ho 2).trans rfl
                  go_wp2_with ((with_reducible refine gate_builtin (b := .append) (xs := #[.tmp 145, .tmp 147]) rfl ?_); at_builtin; refine Kd.R_append (Kd.slice 3 (Kd.int .i64)) (w0 := wr) B1 rfl (.tmp 145) (.tmp 147) 22 25 (.slice none 0 0) 24 rfl Try.underlying22 info25 rfl (by decide) (by omega) (.slice Ao o.length co) o re [.slice A12 re.length c12] (fun k => (So k ∨ Sr k) ∨ wr.heap.size ≤ k) Sr rfl rfl ⟨_, rfl, (HRQ.out).hR⟩ (fun k hk => ⟨.inl (.inr hk), fun he => (HRQ.out).dor k ((HRQ.out).hO.1 k he.symm) hk⟩) (fun k hk => .inr hk) (Kd.R_mono (HRQ.out).hO (fun _ hk => .inl (.inl hk))) (Below.refl B1 wr) ((HRQ.out).h1).2.2.1 hlo ?_; intro v5 w5 ho5 hb5 hg5 hat5; have HRQ5 := Aside0.mk ((HRQ.out).appO ho5 hg5); clear ho5 hb5 hg5 hat5 HRQ hz2; (obtain ⟨A5, c5, e5⟩ := Kd.R_slice (HRQ5.out).hO); rw [List.length_append, List.length_singleton] at e5; subst e5; have hcl : w5.cell? ⟨ob, 2, none⟩ = some (.slice Ao o.length co) := (blk_cell (HRQ5.out).ho 2).trans rfl; have hfz : w5.frozen? ⟨ob, 2, none⟩ = false := blk_frozen (HRQ5.out).ho 2)
                  have HRQ6 := Aside0.mk ((HRQ5.out).put (.slice A5 (o.length + 1) c5))
                  go_roundg (l.length - (i + 1))
                  case measure => omega
                  case rel =>
                    refine ⟨i + 1, .slice A5 (o.length + 1) c5, fun k => Sq k ∧ k < wr.heap.size, fun k => (So k ∨ Sr k) ∨ wr.heap.size ≤ k, by omega, by omega, by go_num, ?_⟩
                    rw [(HST2.out).1, (HST2.out).2]
                    exact HRQ6
            · have hltz : ¬ (i : Int) < ((bfsTo n (stepR l K) (c0 : Int) i).2.length : Int) := by omega
              have HFin := Aside0.mk (show bfsTo n (stepR l K) (c0 : Int) l.length = bfsTo n (stepR l K) (c0 : Int) i by
                have := bfsTo_stays (n := n) (step := stepR l K) (start := (c0 : Int)) hlt (l.length - i)
                rwa [show i + (l.length - i) = l.length from by omega] at this)
              rw [HFin.out] at HRL
              generalize (bfsTo n (stepR l K) (c0 : Int) i) = bi at *
              have hblk := Aside0.mk (blk_below (HB.out).hr (HRQ.out).hb)
              have hz0 : wr.cell? ⟨ob, 0, none⟩ = some (.int .i64 n) := (blk_cell (HRQ.out).ho 0).trans rfl
              have hz1 : wr.cell? ⟨ob, 1, none⟩ = some (.int .i64 0) := (blk_cell (HRQ.out).ho 1).trans rfl
              have hz2 : wr.cell? ⟨ob, 2, none⟩ = some ov := (blk_cell (HRQ.out).ho 2).trans rfl
              have hs0 : wr.cell? ⟨w.heap.size + 1, 0, none⟩ = some (.int .i64 0) := (blk_cell hblk.out 0).trans rfl
              have hs1 : wr.cell? ⟨w.heap.size + 1, 1, none⟩ = some (.int .i64 0) := (blk_cell hblk.out 1).trans rfl
              have hs2 : wr.cell? ⟨w.heap.size + 1, 2, none⟩ = some (.slice none 0 0) := (blk_cell hblk.out 2).trans rfl
              have hf0 : wr.frozen? ⟨w.heap.size + 1, 0, none⟩ = false := blk_frozen hblk.out 0
              have hf1 : wr.frozen? ⟨w.heap.size + 1, 1, none⟩ = false := blk_frozen hblk.out 1
              have hf2 : wr.frozen? ⟨w.heap.size + 1, 2, none⟩ = false := blk_frozen hblk.out 2
              have HOV := Aside0.mk (Kd.R_slice (HRQ.out).hO)
              obtain ⟨Ao, co, rfl⟩ := HOV.out
              go_wp2
              have hb1 := Aside0.mk (blk_set hblk.out 0 (.int .i64 n))
              have hb2 := Aside0.mk (blk_set hb1.out 1 (.int .i64 0))
              have hb3 := Aside0.mk (blk_set hb2.out 2 (.slice Ao bi.1.length co))
              have hg1 := grown_setCell wr ⟨w.heap.size + 1, 0, none⟩ (.int .i64 n)
              have hg2 := grown_setCell (wr.setCell ⟨w.heap.size + 1, 0, none⟩ (.int .i64 n)) ⟨w.heap.size + 1, 1, none⟩ (.int .i64 0)
              have hg3 := grown_setCell ((wr.setCell ⟨w.heap.size + 1, 0, none⟩ (.int .i64 n)).setCell ⟨w.heap.size + 1, 1, none⟩ (.int .i64 0)) ⟨w.heap.size + 1, 2, none⟩ (.slice Ao bi.1.length co)
              have HO1 := R_offrow (HRQ.out).hO hblk.out (by simp [Kd.slice, Kd.int, Kd.scalar]) hg1
              have HO2 := R_offrow HO1 hb1.out (by simp [Kd.slice, Kd.int, Kd.scalar]) hg2
              have HO3 := Aside0.mk (R_offrow HO2 hb2.out (by simp [Kd.slice, Kd.int, Kd.scalar]) hg3)
              have HBB := below_then (HB.out).hb HWL.out (HRQ.out).hb
              have HBC := pw_below_grown HBB _ HBB.size hg1 (fun k hk => by cases hk; exact Nat.le_succ _)
              have HBD := pw_below_grown HBC _ HBC.size hg2 (fun k hk => by cases hk; exact Nat.le_succ _)
              have HBE := Aside0.mk (pw_below_grown HBD _ HBD.size hg3 (fun k hk => by cases hk; exact Nat.le_succ _))
              clear HO1 HO2 HBB HBC HBD hg1 hg2 hg3
              refine bodyPost_ret (results_cell_row rfl _ _ (w.heap.size + 1) 24 #[.int .i64 n, .int .i64 0, .slice Ao bi.1.length co] (0, 0) _ rfl hb3.out Try.underlying24 rfl (by kernel_rfl)) rfl ?_
              refine ⟨_, So, rfl, ?_, HBE.out⟩
              rw [HRL.out]
              exact Kd.R_lower HO3.out (by have := HWL.out; have := (HRQ.out).h1; omega)
end Go.Proofs.Ytmphigeefppfpaa.H
namespace Go.Proofs.Ytmphigeefppfpaa.H
open Go.RowKit Go.Proofs.YtmphigeefppfpaaW.PrintWords Go.Proofs.YtmphigeefppfpaaW.PrintLast Go.Proofs.YtmphigeefppfpaaW.PrintMore
set_option linter.unusedVariables false
theorem firsts_pos (A : Nat → Int) {N : Nat} (h : 1 ≤ N) : 1 ≤ (firsts A N).length := by
  obtain ⟨i, hi, _⟩ := first_of A N 0 (by omega)
  exact List.length_pos_of_mem hi
theorem refines_lq {n : Nat} {s : Int → Nat → Int × Bool} {N : Nat} {c : Nat → Int → Int} (H : Refines n s (fun x => 0 ≤ x ∧ x < (N : Int)) c) (hN : 1 ≤ N) (x y : Int) (hx : 0 ≤ x ∧ x < (N : Int)) (hy : 0 ≤ y ∧ y < (N : Int)) : c N x = c N y ↔ Lq n s s x y := by
  have hsub : ∀ k, ∀ p q : Nat, p < N → q < N → c (k + 1) p = c (k + 1) q → c k p = c k q := fun k p q hp hq h => ((H.succ k p q ⟨by omega, by omega⟩ ⟨by omega, by omega⟩).1 h).1
  have hstop : ∃ k, k < N ∧ (firsts (fun i => c k i) N).length = (firsts (fun i => c (k + 1) i) N).length := by
    refine Classical.byContradiction fun hno => ?_
    have hgrow : ∀ k, k ≤ N → k + 1 ≤ (firsts (fun i => c k i) N).length := by
      intro k
      induction k with
      | zero => intro _; exact firsts_pos _ hN
      | succ k ih =>
        intro hk
        have h0 := ih (by omega)
        have h1 := (firsts_sub (A := fun i => c k i) (B := fun i => c (k + 1) i) (hsub k)).length_le
        have h2 : (firsts (fun i => c k i) N).length ≠ (firsts (fun i => c (k + 1) i) N).length := fun h => hno ⟨k, by omega, h⟩
        omega
    have h1 := hgrow N (Nat.le_refl _)
    have h2 := firsts_le (fun i => c N i) N
    omega
  obtain ⟨k, hk, hst0⟩ := hstop
  have hst := firsts_eq (hsub k) hst0
  constructor
  · intro h
    refine stable_lq (k := k) H.dom (fun x y hx hy h => ?_) x y hx hy (((H.ek N x y hx hy).1 h).less (by omega))
    have h2 := hst x.toNat y.toNat (by have := hx.1; have := hx.2; omega) (by have := hy.1; have := hy.2; omega)
    simp only [Int.toNat_of_nonneg hx.1, Int.toNat_of_nonneg hy.1] at h2
    exact (H.ek (k + 1) x y hx hy).1 (h2 ((H.ek k x y hx hy).2 h))
  · intro h
    exact (H.ek N x y hx hy).2 (h.ek _)
theorem lowTo_spec (rel : Nat → Bool) (q : Nat) : ∀ d, d ≤ q → (∀ p, q - d ≤ p → p < q → lowTo rel q d ≤ p ∨ rel p = false) ∧ (lowTo rel q d = q ∨ (rel (lowTo rel q d) = true ∧ q - d ≤ lowTo rel q d ∧ lowTo rel q d < q))
  | 0, _ => ⟨fun p h1 h2 => absurd h2 (by omega), .inl rfl⟩
  | d + 1, hd => by
    obtain ⟨h1, h2⟩ := lowTo_spec rel q d (by omega)
    simp only [lowTo]
    by_cases hr : rel (q - 1 - d) = true
    · rw [if_pos hr]
      exact ⟨fun p hp _ => .inl (by omega), .inr ⟨hr, by omega, by omega⟩⟩
    · rw [if_neg hr]
      refine ⟨fun p hp hq => ?_, ?_⟩
      · rcases Nat.lt_or_ge p (q - d) with h | h
        · obtain rfl : p = q - 1 - d := by omega
          exact .inr (by simpa using hr)
        · exact h1 p h hq
      · rcases h2 with h2 | ⟨a, b, c⟩
        · exact .inl h2
        · exact .inr ⟨a, by omega, c⟩
theorem refNext_at (n : Nat) (l : List (List Int)) (c : List Int) : ∀ j q : Nat, q < j → rd (refNext n l c j) (q : Int) = (lowTo (relB n l c q) q q : Int)
  | 0, q, h => absurd h (Nat.not_lt_zero _)
  | j + 1, q, h => by
    have hl := refNext_len n l c j
    simp only [refNext]
    rcases Nat.lt_or_ge q j with hq | hq
    · rw [← refNext_at n l c j q hq, rd_at (by rw [List.length_append]; omega), rd_at (by omega), List.getElem_append_left (by omega)]
    · obtain rfl : q = j := by omega
      rw [rd_at (by rw [List.length_append, List.length_singleton]; omega), List.getElem_append_right (by omega)]
      simp
def relP (n : Nat) (l : List (List Int)) (c : List Int) (p q : Nat) : Prop := rd c (p : Int) = rd c (q : Int) ∧ ∀ e, e < n → (stepS l (p : Int) e).2 = (stepS l (q : Int) e).2 ∧ ((stepS l (p : Int) e).2 = true → rd c (stepS l (p : Int) e).1 = rd c (stepS l (q : Int) e).1)
open Classical in
theorem relB_iff {n : Nat} {l : List (List Int)} {c : List Int} {p q : Nat} : relB n l c q p = true ↔ relP n l c p q := by
  unfold relB alikeB relP
  rw [Bool.and_eq_true]
  exact ⟨fun h => ⟨of_decide_eq_true h.1, fun e he => (of_decide_eq_true h.2 : alikeFrom n l c p q 0) e (Nat.zero_le _) he⟩, fun h => ⟨decide_eq_true h.1, decide_eq_true (show alikeFrom n l c p q 0 from fun e _ he => h.2 e he)⟩⟩
section
variable {n : Nat} {l : List (List Int)} {c : List Int} {p q r : Nat}
theorem relP.refl : relP n l c p p := ⟨rfl, fun e _ => ⟨rfl, fun _ => rfl⟩⟩
theorem relP.symm (h : relP n l c p q) : relP n l c q p := ⟨h.1.symm, fun e he => ⟨(h.2 e he).1.symm, fun ho => ((h.2 e he).2 ((h.2 e he).1.trans ho)).symm⟩⟩
theorem relP.trans (h : relP n l c p q) (h2 : relP n l c q r) : relP n l c p r := ⟨h.1.trans h2.1, fun e he => ⟨(h.2 e he).1.trans (h2.2 e he).1, fun ho => ((h.2 e he).2 ho).trans ((h2.2 e he).2 ((h.2 e he).1.symm.trans ho))⟩⟩
theorem low_rel : relP n l c (lowTo (relB n l c q) q q) q := by
  obtain ⟨_, h⟩ := lowTo_spec (relB n l c q) q q (Nat.le_refl _)
  rcases h with h | ⟨h, _⟩
  · rw [h]; exact .refl
  · exact relB_iff.1 h
theorem low_least (h : relP n l c p q) : lowTo (relB n l c q) q q ≤ p := by
  obtain ⟨h1, _⟩ := lowTo_spec (relB n l c q) q q (Nat.le_refl _)
  rcases Nat.lt_or_ge p q with hpq | hpq
  · rcases h1 p (by omega) hpq with h2 | h2
    · exact h2
    · rw [relB_iff.2 h] at h2; cases h2
  · exact Nat.le_trans (lowTo_le _ _ _) hpq
theorem low_iff : lowTo (relB n l c p) p p = lowTo (relB n l c q) q q ↔ relP n l c p q := by
  constructor
  · intro h
    have h1 : relP n l c (lowTo (relB n l c p) p p) p := low_rel
    have h2 : relP n l c (lowTo (relB n l c q) q q) q := low_rel
    rw [h] at h1
    exact h1.symm.trans h2
  · intro h
    exact Nat.le_antisymm (low_least (low_rel.trans h.symm)) (low_least (low_rel.trans h))
end
theorem ref_next_iff {n : Nat} {l : List (List Int)} {c : List Int} {N p q : Nat} (hp : p < N) (hq : q < N) : rd (refNext n l c N) (p : Int) = rd (refNext n l c N) (q : Int) ↔ relP n l c p q := by
  rw [refNext_at n l c N p hp, refNext_at n l c N q hq, ← low_iff]
  omega
theorem ref_refines {n : Nat} {l : List (List Int)} (hl : tableOk n l) : Refines n (stepS l) (fun x => 0 ≤ x ∧ x < (l.length : Int)) (fun k x => rd (refCls n l k) x) where
  zero := fun x y hx hy => by
    have key : ∀ x : Int, 0 ≤ x ∧ x < (l.length : Int) → rd (refCls n l 0) x = 0 := fun x hx => by
      have : x.toNat < l.length := by omega
      simp [refCls, rd, List.getD_eq_getElem?_getD, this]
    rw [key x hx, key y hy]
  succ := fun k x y hx hy => by
    obtain ⟨p, rfl⟩ : ∃ j : Nat, x = (j : Int) := ⟨x.toNat, by have := hx.1; omega⟩
    obtain ⟨q, rfl⟩ : ∃ j : Nat, y = (j : Int) := ⟨y.toNat, by have := hy.1; omega⟩
    exact ref_next_iff (by omega) (by omega)
  dom := graph_dom hl
theorem ref_idem {n : Nat} {l : List (List Int)} {c : List Int} {N p : Nat} (hp : p < N) : rd (refNext n l c N) (rd (refNext n l c N) (p : Int)) = rd (refNext n l c N) (p : Int) := by
  rw [refNext_at n l c N p hp]
  have hlt : lowTo (relB n l c p) p p < N := Nat.lt_of_le_of_lt (lowTo_le _ _ _) hp
  rw [refNext_at n l c N _ hlt, low_iff.2 low_rel]
theorem rleast_is {n : Nat} {l : List (List Int)} {st : Int} (hl : tableOk n l) (hN : 1 ≤ l.length) (hst : domS l st) : IsLeast n l st (rleastOf n l st) ∧ (rleastOf n l st).length ≤ l.length := by
  have hKL := refCls_len n l l.length
  have hKR := refCls_range n l hN l.length
  have hcl := fun x y hx hy => refines_lq (ref_refines hl) hN x y hx hy
  have hid : ∀ x, domS l x → rd (refCls n l l.length) (rd (refCls n l l.length) x) = rd (refCls n l l.length) x := fun x hx => by
    obtain ⟨j, rfl⟩ : ∃ j : Nat, x = (j : Int) := ⟨x.toNat, by have := hx.1; omega⟩
    obtain ⟨k, hk⟩ : ∃ k, l.length = k + 1 := ⟨l.length - 1, by omega⟩
    rw [hk]
    exact ref_idem (by have := hx.2; omega)
  unfold rleastOf
  generalize refCls n l l.length = K at *
  have hkd : ∀ x, domS l x → domS l (rd K x) := fun x hx => hKR _ (rd_mem' hx.1 (by have := hx.2; omega))
  have hD : ∀ x e, (domS l x ∧ rd K x = x) → e < n → (stepR l K x e).2 = true → (domS l (stepR l K x e).1 ∧ rd K (stepR l K x e).1 = (stepR l K x e).1) := by
    intro x e hx he h
    refine ⟨stepR_dom hl hKL hKR x e hx.1 he h, ?_⟩
    unfold stepR at h ⊢
    by_cases ho : (stepS l x e).2 = true
    · rw [if_pos ho]
      exact hid _ (graph_dom hl x e hx.1 he ho)
    · rw [if_neg ho] at h; simp at h
  have hfin := bfs_size (n := n) (step := stepR l K) (start := rd K st) (fun x e hx he h => stepR_dom hl hKL hKR x e hx he h) (hkd st hst) l.length
  have hlq : ∀ x i, domS l x → domS l i → rd K i = x → rd K x = x → Lq n (stepR l K) (stepS l) x i := by
    intro x i hx hi hxi hxx
    refine Lq.of_rel (fun x i => domS l x ∧ domS l i ∧ rd K i = x ∧ rd K x = x) ?_ ⟨hx, hi, hxi, hxx⟩
    rintro x i e ⟨hx, hi, hxi, hxx⟩ he
    have hpi := (hcl x i hx hi).1 (by rw [hxx, hxi])
    have hok2 := hpi.ok he
    unfold stepR
    cases ho : (stepS l x e).2 with
    | false =>
      rw [ho] at hok2
      simp [← hok2]
    | true =>
      have hnx := hpi.next he ho
      rw [ho] at hok2
      have hd1 := graph_dom hl _ e hx he ho
      have hd2 := graph_dom hl _ e hi he hok2.symm
      simp only [if_true]
      exact ⟨hok2, fun _ => ⟨hkd _ hd1, hd2, ((hcl _ _ hd1 hd2).2 hnx).symm, hid _ hd1⟩⟩
  refine ⟨⟨stepR l K, rd K st, fun x => domS l x ∧ rd K x = x, l.length, rfl, hfin, hD, ⟨hkd st hst, hid st hst⟩, fun x y hx hy h => ?_, hlq _ _ (hkd st hst) hst rfl (hid st hst)⟩, ?_⟩
  · have h1 := ((hlq x x hx.1 hx.1 hx.2 hx.2).symm.trans h).trans (hlq y y hy.1 hy.1 hy.2 hy.2)
    rw [← hx.2, ← hy.2]
    exact (hcl _ _ hx.1 hy.1).2 h1
  · have := (bfs_done hfin).1
    omega
end Go.Proofs.Ytmphigeefppfpaa.H
namespace Go.Proofs.Ytmphigeefppfpaa.H
open Go.RowKit Go.Proofs.YtmphigeefppfpaaW.PrintWords Go.Proofs.YtmphigeefppfpaaW.PrintLast Go.Proofs.YtmphigeefppfpaaW.PrintMore
def SameEnd (b : Bool) (w : World) (e : Ending) (w' : World) : Prop := e = .returned (.bool b) ∧ Below w.heap.size w w'
theorem ris_calls (ev st : Int) (A : Option Addr) (c : Nat) (l : List (List Int)) (w : World) (hr : Kd.C (Kd.slice 3 (Kd.int .i64)) w A l.length l) (hc : l.length ≤ c) :
    Calls Try.prog 20 #[.agg #[.int .i64 ev, .int .i64 st, .slice A l.length c]] w (SameEnd (specOk ev st l) w) := by
  obtain ⟨k, hk⟩ := (is_ev ev st l (lens_of_C hr)).rounds
  exact Q.virgationref11_Is.calls k ev st A c l _ w hr hc hk
end Go.Proofs.Ytmphigeefppfpaa.H
namespace Go.Proofs.Ytmphigeefppfpaa.H
open Go.RowKit Go.Proofs.YtmphigeefppfpaaW.PrintWords Go.Proofs.YtmphigeefppfpaaW.PrintLast Go.Proofs.YtmphigeefppfpaaW.PrintMore
set_option linter.unusedVariables false
noncomputable def leastRows (ev st : Int) (l : List (List Int)) : List (List Int) := rleastOf ev.toNat l st
theorem spec_table {ev st : Int} {l : List (List Int)} (hs : specOk ev st l = true) : tableOk ev.toNat l ∧ domS l st ∧ 0 ≤ ev ∧ ev ≤ 16 ∧ 1 ≤ l.length ∧ l.length ≤ 64 := by
  have hh := headOk_true (specOk_head hs)
  refine ⟨fun row hm => ?_, ⟨by omega, by omega⟩, by omega, by omega, by omega, by omega⟩
  simp only [specOk, Bool.and_eq_true, List.all_eq_true] at hs
  have h2 := hs.2 row hm
  simp only [rowOk, Bool.and_eq_true, decide_eq_true_eq, List.all_eq_true] at h2
  exact ⟨by omega, h2.2⟩
theorem leastRows_is {ev st : Int} {l : List (List Int)} (hs : specOk ev st l = true) : IsLeast ev.toNat l st (leastRows ev st l) ∧ (leastRows ev st l).length ≤ l.length := by
  obtain ⟨h1, h2, _, _, h3, _⟩ := spec_table hs
  exact rleast_is h1 h3 h2
def outW (w W : World) (a b c : Value) : World := ((W.setCell ⟨w.heap.size + 1, 0, none⟩ a).setCell ⟨w.heap.size + 1, 1, none⟩ b).setCell ⟨w.heap.size + 1, 2, none⟩ c
theorem results_row_tmp {P : Program} {fn : Func} {p u : Tmp} {ty : TypeId} (h : fn.results = #[.cell p ty, .tmp u]) (tmps : Array Value) (w : World) (g : Nat) (t : TypeId) (cs : Array Value) (fr : Nat × Nat) (d : TypeDesc)
    (hp : tmps.getD p undef = .pointer (some ⟨g, 0, none⟩)) (hg : w.heap[g]? = some (.cells cs t fr))
    (hu : P.underlying ty = some d) (hd : (match d with | .struct _ | .array _ _ => true | _ => false) = true) (hi : (P.info? ty).map (·.size) = some cs.size) :
    (results fn tmps).run P w = .ok (.tuple #[.agg cs, tmps.getD u undef]) w := by
  rw [results_cell_tmp h, hp]
  simp only [asAddr, Sem.run_pure, Result.andThen_ok, run_loadVar_row w g t ty cs fr d hg hu hd hi]
end Go.Proofs.Ytmphigeefppfpaa.H
namespace Go.Proofs.Ytmphigeefppfpaa.H
open Go.RowKit Go.Proofs.YtmphigeefppfpaaW.PrintWords Go.Proofs.YtmphigeefppfpaaW.PrintLast Go.Proofs.YtmphigeefppfpaaW.PrintMore
set_option linter.unusedVariables false
theorem isLeast_ok {n : Nat} {l : List (List Int)} {st : Int} {r : List (List Int)} (h : IsLeast n l st r) : tableOk n r ∧ 1 ≤ r.length := by
  obtain ⟨s, a, D, N, rfl, f, _⟩ := h
  exact table_ok f
end Go.Proofs.Ytmphigeefppfpaa.H
namespace Go.Proofs.Ytmphigeefppfpaa.Q
open Go.RowKit Go.Proofs.YtmphigeefppfpaaW.PrintWords Go.Proofs.YtmphigeefppfpaaW.PrintLast Go.Proofs.YtmphigeefppfpaaW.PrintMore
attribute [local go_sem] max2_int min2_int max_two min_two max_three min_three max_four min_four
set_option linter.unusedVariables false
set_option linter.unusedSimpArgs false
theorem eqA78 (d : Nat) (w : World) (x0 y0 : Int) (x1 y1 : Int) :
    (Op.equalIn (d + 2) 78 (.agg #[.int .i64 x0, .int .i64 x1]) (.agg #[.int .i64 y0, .int .i64 y1])).run Try.prog w = .ok (x0 == y0 && (x1 == y1)) w := by
  refine eqA_of Try.underlying78 (by kernel_rfl) ?_
  refine eqf_cons (by rfl) (by go_simp; rfl) (by go_simp; rfl) (by go_simp) ?_
  exact eqf_last (by rfl) (by go_simp; rfl) (by go_simp; rfl) (by go_simp)
end Go.Proofs.Ytmphigeefppfpaa.Q
namespace Go.Proofs.Ytmphigeefppfpaa.Q
open Go.RowKit Go.Proofs.YtmphigeefppfpaaW.PrintWords Go.Proofs.YtmphigeefppfpaaW.PrintLast Go.Proofs.YtmphigeefppfpaaW.PrintMore
attribute [local go_sem] max2_int min2_int max_two min_two max_three min_three max_four min_four
set_option linter.unusedVariables false
set_option linter.unusedSimpArgs false
attribute [local go_sem high] eqA78
def virgationref06_Ranks.l0 : Nat → List Int → List Int → Int → Int → Option (Bool)
  | 0, _, _, _, _ => none
  | k + 1, x0, x5, x6, x7 => if x7 < x6 then (if 0 ≤ x7 then (if x7 < (x5.length : Int) then (if (rd x5 x7) < 0 then (some false) else (if (rd x5 x7) > 4 then (some false) else (virgationref06_Ranks.l0 k x0 x5 x6 (wrap64 (x7 + 1))))) else (none)) else (none)) else (some (decide ((x0.length : Int) ≤ 24)))
def virgationref06_Ranks.f (k : Nat) (l0 : List Int) : Option (Bool) := virgationref06_Ranks.l0 k l0 l0 (l0.length : Int) 0
set_option maxHeartbeats 8000000 in
set_option maxRecDepth 100000 in
theorem virgationref06_Ranks.calls (k : Nat) (A0 : Option Addr) (c0 : Nat) (l0 : List Int) (r : Bool) (w : World) (hr0 : Kd.C (Kd.int .i64) w A0 l0.length l0) (hc0 : l0.length ≤ c0) (h : virgationref06_Ranks.f k l0 = some r) :
    Calls Try.prog 58 #[.slice A0 l0.length c0] w fun e w' => e = .returned (.bool r) ∧ Drawn0 w w' := by
  have HR0 := Aside0.mk hr0
  have HC0 := Aside0.mk hc0
  clear hr0 hc0
  have H : (virgationref06_Ranks.l0 k l0 l0 (l0.length : Int) 0) = some r := h
  clear h
  have H' := Aside0.mk H
  clear H
  go_enter Try.func58, Try.ntmps58
  go_wp2
  go_loopg [7] k (fun kq v7 w' => ∃ (x7_1 : Int), v7 = .int .i64 x7_1 ∧ Aside0 (virgationref06_Ranks.l0 kq l0 l0 (l0.length : Int) x7_1 = some r) ∧ Aside0 (kq ≤ k) ∧ Drawn0 w w')
  case atStart => exact ⟨(0), (by first | rfl | (simp; done) | (simp [*]; done)), H', ⟨Nat.le_refl _⟩, by repeat (first | exact Drawn0.refl _ | apply Drawn0.step)⟩
  case round =>
    clear H'
    obtain ⟨x7_1, rfl, HA, HK1, ⟨m1, rfl⟩⟩ := hrel
    cases gk with
    | zero => exact absurd HA.out (by simp [virgationref06_Ranks.l0])
    | succ k1 =>
      have H := HA.out
      clear HA
      simp only [virgationref06_Ranks.l0] at H
      by_cases c2 : x7_1 < (l0.length : Int)
      · rw [if_pos c2] at H
        have c2b0 : decide (x7_1 < (l0.length : Int)) = true := decide_eq_true c2
        clear c2
        by_cases c3 : 0 ≤ x7_1
        · rw [if_pos c3] at H
          have c3b0 : decide (0 ≤ x7_1) = true := decide_eq_true c3
          clear c3
          by_cases c4 : x7_1 < (l0.length : Int)
          · rw [if_pos c4] at H
            have c4b0 : decide (x7_1 < (l0.length : Int)) = true := decide_eq_true c4
            clear c4
            by_cases c5 : (rd l0 x7_1) < 0
            · rw [if_pos c5] at H
              have c5b0 : decide ((rd l0 x7_1) < 0) = true := decide_eq_true c5
              clear c5
              obtain rfl := Option.some.inj H
              have p163 : 0 ≤ (x7_1 : Int) := of_decide_eq_true (by first | (with_reducible assumption) | assumption)
              have q163 : x7_1 < (l0.length : Int) := of_decide_eq_true (by first | (with_reducible assumption) | assumption)
              obtain ⟨ad163, e163, hx163_0⟩ := Kd.at_int HR0.out x7_1 p163 q163
              cases e163
              replace p163 := eq_true p163
              replace q163 := eq_true q163
              go_wp2
              go_ret
              exact ⟨by first | rfl | (simp; done) | (simp [*]; done), by repeat (first | exact Drawn0.refl _ | apply Drawn0.step)⟩
            · rw [if_neg c5] at H
              have c5b0 : decide ((rd l0 x7_1) < 0) = false := decide_eq_false c5
              clear c5
              by_cases c6 : (rd l0 x7_1) > 4
              · rw [if_pos c6] at H
                have c6b0 : decide (4 < (rd l0 x7_1)) = true := decide_eq_true c6
                clear c6
                obtain rfl := Option.some.inj H
                have p163 : 0 ≤ (x7_1 : Int) := of_decide_eq_true (by first | (with_reducible assumption) | assumption)
                have q163 : x7_1 < (l0.length : Int) := of_decide_eq_true (by first | (with_reducible assumption) | assumption)
                obtain ⟨ad163, e163, hx163_0⟩ := Kd.at_int HR0.out x7_1 p163 q163
                cases e163
                replace p163 := eq_true p163
                replace q163 := eq_true q163
                go_wp2
                go_ret
                exact ⟨by first | rfl | (simp; done) | (simp [*]; done), by repeat (first | exact Drawn0.refl _ | apply Drawn0.step)⟩
              · rw [if_neg c6] at H
                have c6b0 : decide (4 < (rd l0 x7_1)) = false := decide_eq_false c6
                clear c6
                have H' := Aside0.mk H
                clear H
                have p163 : 0 ≤ (x7_1 : Int) := of_decide_eq_true (by first | (with_reducible assumption) | assumption)
                have q163 : x7_1 < (l0.length : Int) := of_decide_eq_true (by first | (with_reducible assumption) | assumption)
                obtain ⟨ad163, e163, hx163_0⟩ := Kd.at_int HR0.out x7_1 p163 q163
                cases e163
                replace p163 := eq_true p163
                replace q163 := eq_true q163
                go_wp2
                go_roundg k1
                case measure => have := HK1.out; omega
                case rel => exact ⟨(wrap64 (x7_1 + 1)), (by first | rfl | (simp; done) | (simp [*]; done)), H', ⟨by have := HK1.out; omega⟩, by repeat (first | exact Drawn0.refl _ | apply Drawn0.step)⟩
          · rw [if_neg c4] at H
            exact absurd H (by simp)
        · rw [if_neg c3] at H
          exact absurd H (by simp)
      · rw [if_neg c2] at H
        have c2b0 : decide (x7_1 < (l0.length : Int)) = false := decide_eq_false c2
        clear c2
        obtain rfl := Option.some.inj H
        go_wp2
        go_ret
        exact ⟨by first | rfl | (simp; done) | (simp [*]; done), by repeat (first | exact Drawn0.refl _ | apply Drawn0.step)⟩
def virgationref09_Before.j0 : Nat → Bool → Int → Int → Int → Int → Option (Int)
  | 0, _, _, _, _, _ => none
  | k + 1, x5, x167000, x167001, x168000, x168001 => if x5 = true then (some (-1)) else (if (x167000 == x168000 && (x167001 == x168001)) = true then (some 0) else (some 1))
def virgationref09_Before.f (k : Nat) (a0_0 : Int) (a0_1 : Int) (a1_0 : Int) (a1_1 : Int) : Option (Int) := if a0_0 = a1_0 then (virgationref09_Before.j0 k (decide (a0_1 < a1_1)) a0_0 a0_1 a1_0 a1_1) else (if a0_0 < a1_0 then (virgationref09_Before.j0 k true a0_0 a0_1 a1_0 a1_1) else (virgationref09_Before.j0 k false a0_0 a0_1 a1_0 a1_1))
set_option maxHeartbeats 8000000 in
set_option maxRecDepth 100000 in
theorem virgationref09_Before.calls (k : Nat) (a0_0 : Int) (a0_1 : Int) (a1_0 : Int) (a1_1 : Int) (r : Int) (w : World) (h : virgationref09_Before.f k a0_0 a0_1 a1_0 a1_1 = some r) :
    Calls Try.prog 72 #[.agg #[.int .i64 a0_0, .int .i64 a0_1], .agg #[.int .i64 a1_0, .int .i64 a1_1]] w fun e w' => e = .returned (.int .i64 r) ∧ Below w.heap.size w w' := by
  have hu78 := Try.underlying78
  have HB := Aside0.mk (Below.refl w.heap.size w)
  have H : (if a0_0 = a1_0 then (virgationref09_Before.j0 k (decide (a0_1 < a1_1)) a0_0 a0_1 a1_0 a1_1) else (if a0_0 < a1_0 then (virgationref09_Before.j0 k true a0_0 a0_1 a1_0 a1_1) else (virgationref09_Before.j0 k false a0_0 a0_1 a1_0 a1_1))) = some r := h
  clear h
  have HC3 := Aside0.mk H
  clear H
  go_enter Try.func72, Try.ntmps72
  go_upto_region 1 with (first | ((with_reducible refine gate_dst (N := 2) rfl ?_); refine box_event ?hg (N := 2) ?hd (cs := #[.int .i64 a0_0, .int .i64 a0_1]) (t := 78) ?hr ?_; (case hd => rfl); (case hg => rfl); (case hr => first | (go_simp; done) | (go_simp; rfl)); intro gb166 hg w4 hbox hb; have n0_ := Aside0.mk (below_step (by repeat (first | (with_reducible first | exact HB.out | apply below_alloc | apply pw_below_drewN | apply below_drew1) | exact HB.out)) hb); have n1_ := Aside0.mk (hbox); have n2_ := Aside0.mk ((by rw [hg]; exact (below_size (by repeat (first | (with_reducible first | exact HB.out | apply below_alloc | apply pw_below_drewN | apply below_drew1) | exact HB.out))) : w.heap.size ≤ gb166)); have n3_ := Aside0.mk ((by rw [hg]; exact (below_size (by repeat (first | (with_reducible first | exact HB.out | apply below_alloc | apply pw_below_drewN | apply below_drew1) | exact HB.out))) : w.heap.size ≤ gb166)); clear HB; have HB := n0_; have BK166 := n1_; have GW166 := n2_; have GE166 := n3_; clear n0_ n1_ n2_ n3_; clear hb hbox hg) | ((with_reducible refine gate_dst (N := 3) rfl ?_); refine box_event ?hg (N := 3) ?hd (cs := #[.int .i64 a1_0, .int .i64 a1_1]) (t := 78) ?hr ?_; (case hd => rfl); (case hg => rfl); (case hr => first | (go_simp; done) | (go_simp; rfl)); intro gb167 hg w5 hbox hb; have n0_ := Aside0.mk (blk_below (g := gb166) (o := .cells #[.int .i64 a0_0, .int .i64 a0_1] 78 (0, 0)) (by (with_reducible repeat (first | refine blk_drewN ?_ _ | refine blk_drew ?_ | refine blk_alloc ?_ _)); exact BK166.out) hb); have n1_ := Aside0.mk (below_step (by repeat (first | (with_reducible first | exact HB.out | apply below_alloc | apply pw_below_drewN | apply below_drew1 | refine below_set ?_ GE166.out) | exact HB.out)) hb); have n2_ := Aside0.mk (hbox); have n3_ := Aside0.mk ((by rw [hg]; exact (below_size (by repeat (first | (with_reducible first | exact HB.out | apply below_alloc | apply pw_below_drewN | apply below_drew1 | refine below_set ?_ GE166.out) | exact HB.out))) : w.heap.size ≤ gb167)); have n4_ := Aside0.mk ((by rw [hg]; exact (below_size (by repeat (first | (with_reducible first | exact HB.out | apply below_alloc | apply pw_below_drewN | apply below_drew1 | refine below_set ?_ GE166.out) | exact HB.out))) : w.heap.size ≤ gb167)); have n5_ := Aside0.mk ((by rw [hg]; exact Nat.ne_of_lt (blk_lt (g := gb166) (o := .cells #[.int .i64 a0_0, .int .i64 a0_1] 78 (0, 0)) (by (with_reducible repeat (first | refine blk_drewN ?_ _ | refine blk_drew ?_ | refine blk_alloc ?_ _)); exact BK166.out)) : gb166 ≠ gb167)); have n6_ := Aside0.mk ((by rw [hg]; exact Nat.ne_of_gt (blk_lt (g := gb166) (o := .cells #[.int .i64 a0_0, .int .i64 a0_1] 78 (0, 0)) (by (with_reducible repeat (first | refine blk_drewN ?_ _ | refine blk_drew ?_ | refine blk_alloc ?_ _)); exact BK166.out)) : gb167 ≠ gb166)); clear BK166; clear HB; have BK166 := n0_; have HB := n1_; have BK167 := n2_; have GW167 := n3_; have GE167 := n4_; have NB166_167 := n5_; have NB167_166 := n6_; clear n0_ n1_ n2_ n3_ n4_ n5_ n6_; clear hb hbox hg))
  (try simp only [Act.put, List.setIfInBounds_toArray, List.set_cons_zero, List.set_cons_succ])
  go_cut [5] (fun v5 wc => ∃ (kq : Nat) (x5_2 : Bool), v5 = .bool x5_2 ∧ Aside0 (virgationref09_Before.j0 kq x5_2 a0_0 a0_1 a1_0 a1_1 = some r) ∧ Aside0 (kq ≤ k) ∧ Aside0 (wc.heap[gb166]? = some (.cells #[.int .i64 a0_0, .int .i64 a0_1] 78 (0, 0))) ∧ Aside0 (wc.heap[gb167]? = some (.cells #[.int .i64 a1_0, .int .i64 a1_1] 78 (0, 0))) ∧ Aside0 (Below w.heap.size w wc))
  case first =>
    have H := HC3.out
    clear HC3
    by_cases c6 : a0_0 = a1_0
    · rw [if_pos c6] at H
      have c6b0 : (a0_0 == a1_0) = true := beq_iff_eq.mpr c6
      have c6b1 : (a0_0 != a1_0) = false := bne_eq_false_iff_eq.mpr c6
      clear c6
      (first | rw [c6b0] | (simp only [i64_w, i32_w]; rw [c6b0]) | skip)
      have H' := Aside0.mk H
      clear H
      have hnb7 := NB166_167.out
      have hnc7 := NB167_166.out
      have hcz8_0 : w5.cell? ⟨gb166, 0, none⟩ = some (.int .i64 a0_0) := (blk_cell BK166.out 0).trans rfl
      have hcz8_1 : w5.cell? ⟨gb166, 1, none⟩ = some (.int .i64 a0_1) := (blk_cell BK166.out 1).trans rfl
      have hfz8_0 := blk_frozen BK166.out 0
      have hfz8_1 := blk_frozen BK166.out 1
      have hcz9_0 : w5.cell? ⟨gb167, 0, none⟩ = some (.int .i64 a1_0) := (blk_cell BK167.out 0).trans rfl
      have hcz9_1 : w5.cell? ⟨gb167, 1, none⟩ = some (.int .i64 a1_1) := (blk_cell BK167.out 1).trans rfl
      have hfz9_0 := blk_frozen BK167.out 0
      have hfz9_1 := blk_frozen BK167.out 1
      go_wp2
      go_meet
      case rel => exact ⟨_, (decide (a0_1 < a1_1)), (by first | rfl | (simp; done) | (simp [*]; done)), H', ⟨by first | omega | exact Nat.le_refl _⟩, ⟨by (with_reducible repeat (first | refine blk_drewN ?_ _ | refine blk_drew ?_ | refine blk_alloc ?_ _)); exact BK166.out⟩, ⟨by (with_reducible repeat (first | refine blk_drewN ?_ _ | refine blk_drew ?_ | refine blk_alloc ?_ _)); exact BK167.out⟩, ⟨by repeat (first | (with_reducible first | exact HB.out | apply below_alloc | apply pw_below_drewN | apply below_drew1 | refine below_set ?_ GE166.out | refine below_set ?_ GE167.out) | exact HB.out)⟩⟩
    · rw [if_neg c6] at H
      have c6b0 : (a0_0 == a1_0) = false := beq_eq_false_iff_ne.mpr c6
      have c6b1 : (a0_0 != a1_0) = true := bne_iff_ne.mpr c6
      (first | rw [c6b0] | (simp only [i64_w, i32_w]; rw [c6b0]) | skip)
      by_cases c10 : a0_0 < a1_0
      · rw [if_pos c10] at H
        have c10b0 : decide (a0_0 < a1_0) = true := decide_eq_true c10
        clear c10
        have H' := Aside0.mk H
        clear H
        have hnb11 := NB166_167.out
        have hnc11 := NB167_166.out
        have hcz12_0 : w5.cell? ⟨gb166, 0, none⟩ = some (.int .i64 a0_0) := (blk_cell BK166.out 0).trans rfl
        have hcz12_1 : w5.cell? ⟨gb166, 1, none⟩ = some (.int .i64 a0_1) := (blk_cell BK166.out 1).trans rfl
        have hfz12_0 := blk_frozen BK166.out 0
        have hfz12_1 := blk_frozen BK166.out 1
        have hcz13_0 : w5.cell? ⟨gb167, 0, none⟩ = some (.int .i64 a1_0) := (blk_cell BK167.out 0).trans rfl
        have hcz13_1 : w5.cell? ⟨gb167, 1, none⟩ = some (.int .i64 a1_1) := (blk_cell BK167.out 1).trans rfl
        have hfz13_0 := blk_frozen BK167.out 0
        have hfz13_1 := blk_frozen BK167.out 1
        go_wp2
        go_meet
        case rel => exact ⟨_, (true), (by first | rfl | (simp; done) | (simp [*]; done)), H', ⟨by first | omega | exact Nat.le_refl _⟩, ⟨by (with_reducible repeat (first | refine blk_drewN ?_ _ | refine blk_drew ?_ | refine blk_alloc ?_ _)); exact BK166.out⟩, ⟨by (with_reducible repeat (first | refine blk_drewN ?_ _ | refine blk_drew ?_ | refine blk_alloc ?_ _)); exact BK167.out⟩, ⟨by repeat (first | (with_reducible first | exact HB.out | apply below_alloc | apply pw_below_drewN | apply below_drew1 | refine below_set ?_ GE166.out | refine below_set ?_ GE167.out) | exact HB.out)⟩⟩
      · rw [if_neg c10] at H
        have c10b0 : decide (a0_0 < a1_0) = false := decide_eq_false c10
        clear c10
        have H' := Aside0.mk H
        clear H
        have hnb14 := NB166_167.out
        have hnc14 := NB167_166.out
        have hcz15_0 : w5.cell? ⟨gb166, 0, none⟩ = some (.int .i64 a0_0) := (blk_cell BK166.out 0).trans rfl
        have hcz15_1 : w5.cell? ⟨gb166, 1, none⟩ = some (.int .i64 a0_1) := (blk_cell BK166.out 1).trans rfl
        have hfz15_0 := blk_frozen BK166.out 0
        have hfz15_1 := blk_frozen BK166.out 1
        have hcz16_0 : w5.cell? ⟨gb167, 0, none⟩ = some (.int .i64 a1_0) := (blk_cell BK167.out 0).trans rfl
        have hcz16_1 : w5.cell? ⟨gb167, 1, none⟩ = some (.int .i64 a1_1) := (blk_cell BK167.out 1).trans rfl
        have hfz16_0 := blk_frozen BK167.out 0
        have hfz16_1 := blk_frozen BK167.out 1
        go_wp2
        go_meet
        case rel => exact ⟨_, (false), (by first | rfl | (simp; done) | (simp [*]; done)), H', ⟨by first | omega | exact Nat.le_refl _⟩, ⟨by (with_reducible repeat (first | refine blk_drewN ?_ _ | refine blk_drew ?_ | refine blk_alloc ?_ _)); exact BK166.out⟩, ⟨by (with_reducible repeat (first | refine blk_drewN ?_ _ | refine blk_drew ?_ | refine blk_alloc ?_ _)); exact BK167.out⟩, ⟨by repeat (first | (with_reducible first | exact HB.out | apply below_alloc | apply pw_below_drewN | apply below_drew1 | refine below_set ?_ GE166.out | refine below_set ?_ GE167.out) | exact HB.out)⟩⟩
  case rest =>
    clear HC3
    try clear c1
    try clear p2
    try clear c6
    try clear c6b0
    try clear c6b1
    try clear c7
    try clear c10
    try clear c10b0
    try clear c11
    try clear c14
    try clear hcz12_0
    try clear hcz12_1
    try clear hcz13_0
    try clear hcz13_1
    try clear hcz15_0
    try clear hcz15_1
    try clear hcz16_0
    try clear hcz16_1
    try clear hcz8_0
    try clear hcz8_1
    try clear hcz9_0
    try clear hcz9_1
    try clear hfz12_0
    try clear hfz12_1
    try clear hfz13_0
    try clear hfz13_1
    try clear hfz15_0
    try clear hfz15_1
    try clear hfz16_0
    try clear hfz16_1
    try clear hfz8_0
    try clear hfz8_1
    try clear hfz9_0
    try clear hfz9_1
    obtain ⟨kq, x5_2, rfl, HA, HJ2, BK166, BK167, HB⟩ := hcut
    cases kq with
    | zero => exact absurd HA.out (by simp [virgationref09_Before.j0])
    | succ kj2 =>
      have H := HA.out
      clear HA
      simp only [virgationref09_Before.j0] at H
      by_cases c17 : x5_2 = true
      · subst c17
        have H1 : (some (-1)) = some r := by rw [if_pos rfl] at H; exact H
        clear H
        have H := H1
        clear H1
        obtain rfl := Option.some.inj H
        go_wp2
        go_ret
        exact ⟨by first | rfl | (simp [errW_none, errW_some] <;> rfl) | (simp [*, errW_none, errW_some] <;> rfl), by repeat (first | (with_reducible first | exact HB.out | apply below_alloc | apply pw_below_drewN | apply below_drew1 | refine below_set ?_ GE166.out | refine below_set ?_ GE167.out) | exact HB.out)⟩
      · replace c17 := Bool.eq_false_iff.mpr c17
        subst c17
        have H1 : (if (a0_0 == a1_0 && (a0_1 == a1_1)) = true then (some 0) else (some 1)) = some r := by rw [if_neg (show ¬ (false = true) by decide)] at H; exact H
        clear H
        have H := H1
        clear H1
        by_cases c18 : (a0_0 == a1_0 && (a0_1 == a1_1)) = true
        · rw [if_pos c18] at H
          have c18b0 : (a0_0 == a1_0 && (a0_1 == a1_1)) = true := c18
          (try (have c18b1 : decide (a0_0 = a1_0 && (a0_1 == a1_1)) = true := by simpa using c18))
          (try (have c18b2 : (a0_0 == a1_0 && (a0_1 == a1_1)) = true := by simpa using c18))
          clear c18
          obtain rfl := Option.some.inj H
          have hnb19 := NB166_167.out
          have hnc19 := NB167_166.out
          have hcz20_0 : wc.cell? ⟨gb166, 0, none⟩ = some (.int .i64 a0_0) := (blk_cell BK166.out 0).trans rfl
          have hcz20_1 : wc.cell? ⟨gb166, 1, none⟩ = some (.int .i64 a0_1) := (blk_cell BK166.out 1).trans rfl
          have hfz20_0 := blk_frozen BK166.out 0
          have hfz20_1 := blk_frozen BK166.out 1
          have hcz21_0 : wc.cell? ⟨gb167, 0, none⟩ = some (.int .i64 a1_0) := (blk_cell BK167.out 0).trans rfl
          have hcz21_1 : wc.cell? ⟨gb167, 1, none⟩ = some (.int .i64 a1_1) := (blk_cell BK167.out 1).trans rfl
          have hfz21_0 := blk_frozen BK167.out 0
          have hfz21_1 := blk_frozen BK167.out 1
          go_wp2
          go_ret
          exact ⟨by first | rfl | (simp [errW_none, errW_some] <;> rfl) | (simp [*, errW_none, errW_some] <;> rfl), by repeat (first | (with_reducible first | exact HB.out | apply below_alloc | apply pw_below_drewN | apply below_drew1 | refine below_set ?_ GE166.out | refine below_set ?_ GE167.out) | exact HB.out)⟩
        · rw [if_neg c18] at H
          have c18b0 : (a0_0 == a1_0 && (a0_1 == a1_1)) = false := by simpa using c18
          (try (have c18b1 : decide (a0_0 = a1_0 && (a0_1 == a1_1)) = false := by simpa using c18))
          (try (have c18b2 : (a0_0 == a1_0 && (a0_1 == a1_1)) = false := by simpa using c18))
          (try (have c18b3 : ¬ (a0_0 = a1_0 && (a0_1 == a1_1)) := by simpa using c18))
          clear c18
          obtain rfl := Option.some.inj H
          have hnb22 := NB166_167.out
          have hnc22 := NB167_166.out
          have hcz23_0 : wc.cell? ⟨gb166, 0, none⟩ = some (.int .i64 a0_0) := (blk_cell BK166.out 0).trans rfl
          have hcz23_1 : wc.cell? ⟨gb166, 1, none⟩ = some (.int .i64 a0_1) := (blk_cell BK166.out 1).trans rfl
          have hfz23_0 := blk_frozen BK166.out 0
          have hfz23_1 := blk_frozen BK166.out 1
          have hcz24_0 : wc.cell? ⟨gb167, 0, none⟩ = some (.int .i64 a1_0) := (blk_cell BK167.out 0).trans rfl
          have hcz24_1 : wc.cell? ⟨gb167, 1, none⟩ = some (.int .i64 a1_1) := (blk_cell BK167.out 1).trans rfl
          have hfz24_0 := blk_frozen BK167.out 0
          have hfz24_1 := blk_frozen BK167.out 1
          go_wp2
          go_ret
          exact ⟨by first | rfl | (simp [errW_none, errW_some] <;> rfl) | (simp [*, errW_none, errW_some] <;> rfl), by repeat (first | (with_reducible first | exact HB.out | apply below_alloc | apply pw_below_drewN | apply below_drew1 | refine below_set ?_ GE166.out | refine below_set ?_ GE167.out) | exact HB.out)⟩
mutual
def virgationref09_Compare.l0 : Nat → List (S78) → List (S78) → Int → Option (Int)
  | 0, _, _, _ => none
  | k + 1, x0, x1, x5 => if x5 < (x0.length : Int) then (virgationref09_Compare.j1 k x0 x1 x5 (decide (x5 < (x1.length : Int)))) else (virgationref09_Compare.j1 k x0 x1 x5 false)
def virgationref09_Compare.j1 : Nat → List (S78) → List (S78) → Int → Bool → Option (Int)
  | 0, _, _, _, _ => none
  | k + 1, x0, x1, x5, x16 => if x16 = true then (if 0 ≤ x5 then (if x5 < (x0.length : Int) then (if x5 < (x1.length : Int) then ((virgationref09_Before.f k ((rd_T78 x0 x5).f0) ((rd_T78 x0 x5).f1) ((rd_T78 x1 x5).f0) ((rd_T78 x1 x5).f1)).bind fun t170 => (if t170 = 0 then (virgationref09_Compare.l0 k x0 x1 (wrap64 (x5 + 1))) else (some t170))) else (none)) else (none)) else (none)) else (if (x0.length : Int) < (x1.length : Int) then (some (-1)) else (if (x0.length : Int) > (x1.length : Int) then (some 1) else (some 0)))
end
def virgationref09_Compare.f (k : Nat) (l0 : List (S78)) (l1 : List (S78)) : Option (Int) := virgationref09_Compare.l0 k l0 l1 0
def virgationref09_Compare.T4 : Bool × List (List Nat × List Nat) := (true, [([], []), ([], []), ([0, 1], [0, 1]), ([2], [2]), ([], []), ([], []), ([4, 5], [4, 5]), ([6], [6]), ([3, 7], [3, 7]), ([8, 8, 0, 1, 2, 3, 4, 5, 6, 7, 8], [8])])
def virgationref09_Compare.B4 : List Nat := [0, 0, 3, 7, 0, 0, 48, 112, 255, 511]
theorem virgationref09_Compare.tab4 : rtab .any (opsOf Try.f70 4) = virgationref09_Compare.T4 := by kernel_rfl
theorem virgationref09_Compare.bits4 : waitsOk virgationref09_Compare.T4.2 virgationref09_Compare.B4 = true := by kernel_rfl
set_option maxHeartbeats 8000000 in
set_option maxRecDepth 100000 in
theorem virgationref09_Compare.calls (k : Nat) (A0 : Option Addr) (c0 : Nat) (l0 : List (S78)) (A1 : Option Addr) (c1 : Nat) (l1 : List (S78)) (r : Int) (w : World) (hr0 : Kd.C k78 w A0 l0.length l0) (hc0 : l0.length ≤ c0) (hr1 : Kd.C k78 w A1 l1.length l1) (hc1 : l1.length ≤ c1) (h : virgationref09_Compare.f k l0 l1 = some r) :
    Calls Try.prog 70 #[.slice A0 l0.length c0, .slice A1 l1.length c1] w fun e w' => e = .returned (.int .i64 r) ∧ Below w.heap.size w w' := by
  have hu78 := Try.underlying78
  have HR0 := Aside0.mk hr0
  have HC0 := Aside0.mk hc0
  clear hr0 hc0
  have HR1 := Aside0.mk hr1
  have HC1 := Aside0.mk hc1
  clear hr1 hc1
  have HB := Aside0.mk (Below.refl w.heap.size w)
  have H : (virgationref09_Compare.l0 k l0 l1 0) = some r := h
  clear h
  have H' := Aside0.mk H
  clear H
  go_enter Try.func70, Try.ntmps70
  go_wp2
  go_loopg [5] k (fun kq v5 w' => ∃ (x5_1 : Int), v5 = .int .i64 x5_1 ∧ Aside0 (virgationref09_Compare.l0 kq l0 l1 x5_1 = some r) ∧ Aside0 (kq ≤ k) ∧ Aside0 (Below w.heap.size w w'))
  case atStart => exact ⟨(0), (by first | rfl | (simp; done) | (simp [*]; done)), H', ⟨Nat.le_refl _⟩, ⟨by repeat (first | (with_reducible first | exact HB.out | apply below_alloc | apply pw_below_drewN | apply below_drew1) | exact HB.out)⟩⟩
  case round =>
    clear H'
    try clear c1
    try clear p2
    obtain ⟨x5_1, rfl, HA, HK1, HB⟩ := hrel
    cases gk with
    | zero => exact absurd HA.out (by simp [virgationref09_Compare.l0])
    | succ k1 =>
      have H := HA.out
      clear HA
      simp only [virgationref09_Compare.l0] at H
      have HC3 := Aside0.mk H
      clear H
      go_upto_region 2 with (fail)
      go_cut [16] (fun v16 wc => ∃ (kq : Nat) (x16_2 : Bool), v16 = .bool x16_2 ∧ Aside0 (virgationref09_Compare.j1 kq l0 l1 x5_1 x16_2 = some r) ∧ Aside0 (kq ≤ k1) ∧ Aside0 (Below w.heap.size w wc))
      case first =>
        have H := HC3.out
        clear HC3
        by_cases c4 : x5_1 < (l0.length : Int)
        · rw [if_pos c4] at H
          have c4b0 : decide (x5_1 < (l0.length : Int)) = true := decide_eq_true c4
          clear c4
          (first | rw [c4b0] | (simp only [i64_w, i32_w]; rw [c4b0]) | skip)
          have H' := Aside0.mk H
          clear H
          go_wp2
          go_meet
          case rel => exact ⟨_, (decide (x5_1 < (l1.length : Int))), (by first | rfl | (simp; done) | (simp [*]; done)), H', ⟨by have := HK1.out; first | omega | exact Nat.le_refl _⟩, ⟨by repeat (first | (with_reducible first | exact HB.out | apply below_alloc | apply pw_below_drewN | apply below_drew1) | exact HB.out)⟩⟩
        · rw [if_neg c4] at H
          have c4b0 : decide (x5_1 < (l0.length : Int)) = false := decide_eq_false c4
          clear c4
          (first | rw [c4b0] | (simp only [i64_w, i32_w]; rw [c4b0]) | skip)
          have H' := Aside0.mk H
          clear H
          go_wp2
          go_meet
          case rel => exact ⟨_, (false), (by first | rfl | (simp; done) | (simp [*]; done)), H', ⟨by have := HK1.out; first | omega | exact Nat.le_refl _⟩, ⟨by repeat (first | (with_reducible first | exact HB.out | apply below_alloc | apply pw_below_drewN | apply below_drew1) | exact HB.out)⟩⟩
      case rest =>
        clear HC3
        try clear c1
        try clear p2
        try clear c4
        try clear c4b0
        try clear p2
        obtain ⟨kq, x16_2, rfl, HA, HJ2, HB⟩ := hcut
        cases kq with
        | zero => exact absurd HA.out (by simp [virgationref09_Compare.j1])
        | succ kj2 =>
          have H := HA.out
          clear HA
          simp only [virgationref09_Compare.j1] at H
          by_cases c5 : x16_2 = true
          · subst c5
            have H1 : (if 0 ≤ x5_1 then (if x5_1 < (l0.length : Int) then (if x5_1 < (l1.length : Int) then ((virgationref09_Before.f kj2 ((rd_T78 l0 x5_1).f0) ((rd_T78 l0 x5_1).f1) ((rd_T78 l1 x5_1).f0) ((rd_T78 l1 x5_1).f1)).bind fun t170 => (if t170 = 0 then (virgationref09_Compare.l0 kj2 l0 l1 (wrap64 (x5_1 + 1))) else (some t170))) else (none)) else (none)) else (none)) = some r := by rw [if_pos rfl] at H; exact H
            clear H
            have H := H1
            clear H1
            by_cases c6 : 0 ≤ x5_1
            · rw [if_pos c6] at H
              have c6b0 : decide (0 ≤ x5_1) = true := decide_eq_true c6
              clear c6
              by_cases c7 : x5_1 < (l0.length : Int)
              · rw [if_pos c7] at H
                have c7b0 : decide (x5_1 < (l0.length : Int)) = true := decide_eq_true c7
                clear c7
                by_cases c8 : x5_1 < (l1.length : Int)
                · rw [if_pos c8] at H
                  have c8b0 : decide (x5_1 < (l1.length : Int)) = true := decide_eq_true c8
                  clear c8
                  replace H := Option.bind_eq_some_iff.mp H
                  obtain ⟨t170, A90, H⟩ := H
                  replace H : (if t170 = 0 then (virgationref09_Compare.l0 kj2 l0 l1 (wrap64 (x5_1 + 1))) else (some t170)) = some r := H
                  have A9 := Aside0.mk A90
                  clear A90
                  by_cases c10 : t170 = 0
                  · rw [if_pos c10] at H
                    have c10b0 : (t170 == 0) = true := beq_iff_eq.mpr c10
                    have c10b1 : (t170 != 0) = false := bne_eq_false_iff_eq.mpr c10
                    clear c10
                    have H' := Aside0.mk H
                    clear H
                    try go_wp2
                    have n0_ := Aside0.mk (below_drew1 HB.out)
                    clear HB
                    have HB := n0_
                    clear n0_
                    have p168 : 0 ≤ (x5_1 : Int) := of_decide_eq_true (by first | (with_reducible assumption) | assumption)
                    have q168 : x5_1 < (l0.length : Int) := of_decide_eq_true (by first | (with_reducible assumption) | assumption)
                    obtain ⟨ad168, e168, hx168_0, hx168_1⟩ := at_T78 HR0.out x5_1 p168 q168
                    have hw168_1 := hx168_1
                    have hw168_0 := hx168_0
                    cases e168
                    replace hx168_0 := (HB.out.cell (World.block_lt_of_cell? w _ hx168_0)).trans hx168_0
                    replace hx168_1 := (HB.out.cell (World.block_lt_of_cell? w _ hx168_1)).trans hx168_1
                    replace p168 := eq_true p168
                    replace q168 := eq_true q168
                    have p169 : 0 ≤ (x5_1 : Int) := of_decide_eq_true (by first | (with_reducible assumption) | assumption)
                    have q169 : x5_1 < (l1.length : Int) := of_decide_eq_true (by first | (with_reducible assumption) | assumption)
                    obtain ⟨ad169, e169, hx169_0, hx169_1⟩ := at_T78 HR1.out x5_1 p169 q169
                    have hw169_1 := hx169_1
                    have hw169_0 := hx169_0
                    cases e169
                    replace hx169_0 := (HB.out.cell (World.block_lt_of_cell? w _ hx169_0)).trans hx169_0
                    replace hx169_1 := (HB.out.cell (World.block_lt_of_cell? w _ hx169_1)).trans hx169_1
                    replace p169 := eq_true p169
                    replace q169 := eq_true q169
                    refine start_ (n := 10) (S := fun w' => w'.cell? (ad168.add ((x5_1).toNat * 2)) = some (.int .i64 ((rd_T78 l0 x5_1).f0)) ∧ w'.cell? ⟨(ad168.add ((x5_1).toNat * 2)).block, (ad168.add ((x5_1).toNat * 2)).off + 1, none⟩ = some (.int .i64 ((rd_T78 l0 x5_1).f1)) ∧ w'.cell? (ad169.add ((x5_1).toNat * 2)) = some (.int .i64 ((rd_T78 l1 x5_1).f0)) ∧ w'.cell? ⟨(ad169.add ((x5_1).toNat * 2)).block, (ad169.add ((x5_1).toNat * 2)).off + 1, none⟩ = some (.int .i64 ((rd_T78 l1 x5_1).f1))) (ds := []) #[false, false, false, false, false, false, false, false, false, false] (by kernel_rfl) rfl rfl ⟨((HB.out.cell (World.block_lt_of_cell? w _ hw168_0)).trans hw168_0), ((HB.out.cell (World.block_lt_of_cell? w _ hw168_1)).trans hw168_1), ((HB.out.cell (World.block_lt_of_cell? w _ hw169_0)).trans hw169_0), ((HB.out.cell (World.block_lt_of_cell? w _ hw169_1)).trans hw169_1)⟩ (fun hHeld => ?_); refine with_tabW virgationref09_Compare.tab4 virgationref09_Compare.bits4 (fun HT_ HW_ => ?_)
                    generalize wc.drew = w11 at HB hx168_0 hx168_1 hx169_0 hx169_1 hHeld ⊢
                    refine pure_ (i := 0) (N := some 19) (v := ?_) (a' := ?_) #[true, false, false, false, false, false, false, false, false, false] rfl rfl (any_of HT_.out (by kernel_rfl)) (fun _ _ _ h => h) (Or.inl ⟨by rfl, ?_⟩) ?_ ?_
                    rotate_left
                    · intro w'
                      go_simp
                      with_reducible rfl
                    rotate_left
                    · simp only [Act.put, List.setIfInBounds_toArray, List.set_cons_zero, List.set_cons_succ, i64_w, i32_w]
                      rfl
                    refine pure_ (i := 1) (N := some 20) (v := ?_) (a' := ?_) #[true, true, false, false, false, false, false, false, false, false] rfl rfl (any_of HT_.out (by kernel_rfl)) (fun _ _ _ h => h) (Or.inl ⟨by rfl, ?_⟩) ?_ ?_
                    rotate_left
                    · intro w'
                      go_simp
                      with_reducible rfl
                    rotate_left
                    · simp only [Act.put, List.setIfInBounds_toArray, List.set_cons_zero, List.set_cons_succ, i64_w, i32_w]
                      rfl
                    refine pure_ (i := 2) (N := some 21) (v := ?_) (a' := ?_) #[true, true, true, false, false, false, false, false, false, false] rfl rfl (any_of HT_.out (by kernel_rfl)) (fun _ _ _ h => h) (Or.inl ⟨by rfl, ?_⟩) ?_ ?_
                    rotate_left
                    · intro w'
                      go_simp
                      with_reducible rfl
                    rotate_left
                    · simp only [Act.put, List.setIfInBounds_toArray, List.set_cons_zero, List.set_cons_succ, i64_w, i32_w]
                      rfl
                    refine pure_ (i := 4) (N := some 23) (v := ?_) (a' := ?_) #[true, true, true, false, true, false, false, false, false, false] rfl rfl (any_of HT_.out (by kernel_rfl)) (fun _ _ _ h => h) (Or.inl ⟨by rfl, ?_⟩) ?_ ?_
                    rotate_left
                    · intro w'
                      go_simp
                      with_reducible rfl
                    rotate_left
                    · simp only [Act.put, List.setIfInBounds_toArray, List.set_cons_zero, List.set_cons_succ, i64_w, i32_w]
                      rfl
                    refine pure_ (i := 5) (N := some 24) (v := ?_) (a' := ?_) #[true, true, true, false, true, true, false, false, false, false] rfl rfl (any_of HT_.out (by kernel_rfl)) (fun _ _ _ h => h) (Or.inl ⟨by rfl, ?_⟩) ?_ ?_
                    rotate_left
                    · intro w'
                      go_simp
                      with_reducible rfl
                    rotate_left
                    · simp only [Act.put, List.setIfInBounds_toArray, List.set_cons_zero, List.set_cons_succ, i64_w, i32_w]
                      rfl
                    refine pure_ (i := 6) (N := some 25) (v := ?_) (a' := ?_) #[true, true, true, false, true, true, true, false, false, false] rfl rfl (any_of HT_.out (by kernel_rfl)) (fun _ _ _ h => h) (Or.inl ⟨by rfl, ?_⟩) ?_ ?_
                    rotate_left
                    · intro w'
                      go_simp
                      with_reducible rfl
                    rotate_left
                    · simp only [Act.put, List.setIfInBounds_toArray, List.set_cons_zero, List.set_cons_succ, i64_w, i32_w]
                      rfl
                    refine take_ (i := 3) (N := some 22) (v := ?_) (a' := ?_) #[true, true, true, true, true, true, true, false, false, false] rfl rfl (take_ofW HT_.out HW_.out (by kernel_rfl)) (fun _ _ _ h => h) (Or.inl ⟨by rfl, ?_⟩) hHeld ?_ ?_
                    rotate_left
                    · rintro w' ⟨s0, s1, s2, s3⟩
                      go_simp
                      with_reducible rfl
                    rotate_left
                    · simp only [Act.put, List.setIfInBounds_toArray, List.set_cons_zero, List.set_cons_succ, i64_w, i32_w]
                      rfl
                    refine take_ (i := 7) (N := some 26) (v := ?_) (a' := ?_) #[true, true, true, true, true, true, true, true, false, false] rfl rfl (take_ofW HT_.out HW_.out (by kernel_rfl)) (fun _ _ _ h => h) (Or.inl ⟨by rfl, ?_⟩) hHeld ?_ ?_
                    rotate_left
                    · rintro w' ⟨s0, s1, s2, s3⟩
                      go_simp
                      with_reducible rfl
                    rotate_left
                    · simp only [Act.put, List.setIfInBounds_toArray, List.set_cons_zero, List.set_cons_succ, i64_w, i32_w]
                      rfl
                    refine one_ (i := 8) (N := some 27) #[true, true, true, true, true, true, true, true, true, false] rfl rfl (one_of HT_.out (by kernel_rfl)) (by decide) (fun K hK => ?_)
                    refine goes_ Try.func72 (by kernel_rfl) rfl #[.agg #[.int .i64 ((rd_T78 l0 x5_1).f0), .int .i64 ((rd_T78 l0 x5_1).f1)], .agg #[.int .i64 ((rd_T78 l1 x5_1).f0), .int .i64 ((rd_T78 l1 x5_1).f1)]] (by rfl) rfl rfl (by (try simp only [List.map_toArray, List.map_cons, List.map_nil]); first | done | rfl | (simp only [List.length_drop, List.length_take]; rfl)) ?_
                    with_reducible refine (virgationref09_Before.calls kj2 ((rd_T78 l0 x5_1).f0) ((rd_T78 l0 x5_1).f1) ((rd_T78 l1 x5_1).f0) ((rd_T78 l1 x5_1).f1) t170 _ A9.out).mono ?_
                    rintro e w12 ⟨rfl, hb⟩
                    refine ⟨_, rfl, ?_⟩
                    have n0_ := Aside0.mk (below_step (by repeat (first | (with_reducible first | exact HB.out | apply below_alloc | apply pw_below_drewN | apply below_drew1) | exact HB.out)) hb)
                    clear HB
                    have HB := n0_
                    clear n0_
                    (try clear hb)
                    (try clear hb2)
                    (try clear hk)
                    (try clear hi)
                    refine hK.out _ _ ⟨((HB.out.cell (World.block_lt_of_cell? w _ hw168_0)).trans hw168_0), ((HB.out.cell (World.block_lt_of_cell? w _ hw168_1)).trans hw168_1), ((HB.out.cell (World.block_lt_of_cell? w _ hw169_0)).trans hw169_0), ((HB.out.cell (World.block_lt_of_cell? w _ hw169_1)).trans hw169_1)⟩ (fun hHeld => ?_)
                    clear hK K
                    refine norm_ (a' := ?_) ?_ ?_
                    rotate_left
                    · show Act.put _ (some 27) _ = _
                      simp only [Act.put, List.setIfInBounds_toArray, List.set_cons_zero, List.set_cons_succ, i64_w, i32_w]
                      rfl
                    refine pure_ (i := 9) (N := some 6) (v := ?_) (a' := ?_) #[true, true, true, true, true, true, true, true, true, true] rfl rfl (any_of HT_.out (by kernel_rfl)) (fun _ _ _ h => h) (Or.inl ⟨by rfl, ?_⟩) ?_ ?_
                    rotate_left
                    · intro w'
                      go_simp
                      with_reducible rfl
                    rotate_left
                    · simp only [Act.put, List.setIfInBounds_toArray, List.set_cons_zero, List.set_cons_succ, i64_w, i32_w]
                      rfl
                    refine done_ (done_of HT_.out (by kernel_rfl)) ?_
                    try go_wp2
                    go_roundg kj2
                    case measure => have := HK1.out; have := HJ2.out; omega
                    case rel => exact ⟨(wrap64 (x5_1 + 1)), (by first | rfl | (simp; done) | (simp [*]; done)), H', ⟨by have := HK1.out; have := HJ2.out; omega⟩, ⟨by repeat (first | (with_reducible first | exact HB.out | apply below_alloc | apply pw_below_drewN | apply below_drew1) | exact HB.out)⟩⟩
                  · rw [if_neg c10] at H
                    have c10b0 : (t170 == 0) = false := beq_eq_false_iff_ne.mpr c10
                    have c10b1 : (t170 != 0) = true := bne_iff_ne.mpr c10
                    obtain rfl := Option.some.inj H
                    try go_wp2
                    have n0_ := Aside0.mk (below_drew1 HB.out)
                    clear HB
                    have HB := n0_
                    clear n0_
                    have p168 : 0 ≤ (x5_1 : Int) := of_decide_eq_true (by first | (with_reducible assumption) | assumption)
                    have q168 : x5_1 < (l0.length : Int) := of_decide_eq_true (by first | (with_reducible assumption) | assumption)
                    obtain ⟨ad168, e168, hx168_0, hx168_1⟩ := at_T78 HR0.out x5_1 p168 q168
                    have hw168_1 := hx168_1
                    have hw168_0 := hx168_0
                    cases e168
                    replace hx168_0 := (HB.out.cell (World.block_lt_of_cell? w _ hx168_0)).trans hx168_0
                    replace hx168_1 := (HB.out.cell (World.block_lt_of_cell? w _ hx168_1)).trans hx168_1
                    replace p168 := eq_true p168
                    replace q168 := eq_true q168
                    have p169 : 0 ≤ (x5_1 : Int) := of_decide_eq_true (by first | (with_reducible assumption) | assumption)
                    have q169 : x5_1 < (l1.length : Int) := of_decide_eq_true (by first | (with_reducible assumption) | assumption)
                    obtain ⟨ad169, e169, hx169_0, hx169_1⟩ := at_T78 HR1.out x5_1 p169 q169
                    have hw169_1 := hx169_1
                    have hw169_0 := hx169_0
                    cases e169
                    replace hx169_0 := (HB.out.cell (World.block_lt_of_cell? w _ hx169_0)).trans hx169_0
                    replace hx169_1 := (HB.out.cell (World.block_lt_of_cell? w _ hx169_1)).trans hx169_1
                    replace p169 := eq_true p169
                    replace q169 := eq_true q169
                    refine start_ (n := 10) (S := fun w' => w'.cell? (ad168.add ((x5_1).toNat * 2)) = some (.int .i64 ((rd_T78 l0 x5_1).f0)) ∧ w'.cell? ⟨(ad168.add ((x5_1).toNat * 2)).block, (ad168.add ((x5_1).toNat * 2)).off + 1, none⟩ = some (.int .i64 ((rd_T78 l0 x5_1).f1)) ∧ w'.cell? (ad169.add ((x5_1).toNat * 2)) = some (.int .i64 ((rd_T78 l1 x5_1).f0)) ∧ w'.cell? ⟨(ad169.add ((x5_1).toNat * 2)).block, (ad169.add ((x5_1).toNat * 2)).off + 1, none⟩ = some (.int .i64 ((rd_T78 l1 x5_1).f1))) (ds := []) #[false, false, false, false, false, false, false, false, false, false] (by kernel_rfl) rfl rfl ⟨((HB.out.cell (World.block_lt_of_cell? w _ hw168_0)).trans hw168_0), ((HB.out.cell (World.block_lt_of_cell? w _ hw168_1)).trans hw168_1), ((HB.out.cell (World.block_lt_of_cell? w _ hw169_0)).trans hw169_0), ((HB.out.cell (World.block_lt_of_cell? w _ hw169_1)).trans hw169_1)⟩ (fun hHeld => ?_); refine with_tabW virgationref09_Compare.tab4 virgationref09_Compare.bits4 (fun HT_ HW_ => ?_)
                    generalize wc.drew = w13 at HB hx168_0 hx168_1 hx169_0 hx169_1 hHeld ⊢
                    refine pure_ (i := 0) (N := some 19) (v := ?_) (a' := ?_) #[true, false, false, false, false, false, false, false, false, false] rfl rfl (any_of HT_.out (by kernel_rfl)) (fun _ _ _ h => h) (Or.inl ⟨by rfl, ?_⟩) ?_ ?_
                    rotate_left
                    · intro w'
                      go_simp
                      with_reducible rfl
                    rotate_left
                    · simp only [Act.put, List.setIfInBounds_toArray, List.set_cons_zero, List.set_cons_succ, i64_w, i32_w]
                      rfl
                    refine pure_ (i := 1) (N := some 20) (v := ?_) (a' := ?_) #[true, true, false, false, false, false, false, false, false, false] rfl rfl (any_of HT_.out (by kernel_rfl)) (fun _ _ _ h => h) (Or.inl ⟨by rfl, ?_⟩) ?_ ?_
                    rotate_left
                    · intro w'
                      go_simp
                      with_reducible rfl
                    rotate_left
                    · simp only [Act.put, List.setIfInBounds_toArray, List.set_cons_zero, List.set_cons_succ, i64_w, i32_w]
                      rfl
                    refine pure_ (i := 2) (N := some 21) (v := ?_) (a' := ?_) #[true, true, true, false, false, false, false, false, false, false] rfl rfl (any_of HT_.out (by kernel_rfl)) (fun _ _ _ h => h) (Or.inl ⟨by rfl, ?_⟩) ?_ ?_
                    rotate_left
                    · intro w'
                      go_simp
                      with_reducible rfl
                    rotate_left
                    · simp only [Act.put, List.setIfInBounds_toArray, List.set_cons_zero, List.set_cons_succ, i64_w, i32_w]
                      rfl
                    refine pure_ (i := 4) (N := some 23) (v := ?_) (a' := ?_) #[true, true, true, false, true, false, false, false, false, false] rfl rfl (any_of HT_.out (by kernel_rfl)) (fun _ _ _ h => h) (Or.inl ⟨by rfl, ?_⟩) ?_ ?_
                    rotate_left
                    · intro w'
                      go_simp
                      with_reducible rfl
                    rotate_left
                    · simp only [Act.put, List.setIfInBounds_toArray, List.set_cons_zero, List.set_cons_succ, i64_w, i32_w]
                      rfl
                    refine pure_ (i := 5) (N := some 24) (v := ?_) (a' := ?_) #[true, true, true, false, true, true, false, false, false, false] rfl rfl (any_of HT_.out (by kernel_rfl)) (fun _ _ _ h => h) (Or.inl ⟨by rfl, ?_⟩) ?_ ?_
                    rotate_left
                    · intro w'
                      go_simp
                      with_reducible rfl
                    rotate_left
                    · simp only [Act.put, List.setIfInBounds_toArray, List.set_cons_zero, List.set_cons_succ, i64_w, i32_w]
                      rfl
                    refine pure_ (i := 6) (N := some 25) (v := ?_) (a' := ?_) #[true, true, true, false, true, true, true, false, false, false] rfl rfl (any_of HT_.out (by kernel_rfl)) (fun _ _ _ h => h) (Or.inl ⟨by rfl, ?_⟩) ?_ ?_
                    rotate_left
                    · intro w'
                      go_simp
                      with_reducible rfl
                    rotate_left
                    · simp only [Act.put, List.setIfInBounds_toArray, List.set_cons_zero, List.set_cons_succ, i64_w, i32_w]
                      rfl
                    refine take_ (i := 3) (N := some 22) (v := ?_) (a' := ?_) #[true, true, true, true, true, true, true, false, false, false] rfl rfl (take_ofW HT_.out HW_.out (by kernel_rfl)) (fun _ _ _ h => h) (Or.inl ⟨by rfl, ?_⟩) hHeld ?_ ?_
                    rotate_left
                    · rintro w' ⟨s0, s1, s2, s3⟩
                      go_simp
                      with_reducible rfl
                    rotate_left
                    · simp only [Act.put, List.setIfInBounds_toArray, List.set_cons_zero, List.set_cons_succ, i64_w, i32_w]
                      rfl
                    refine take_ (i := 7) (N := some 26) (v := ?_) (a' := ?_) #[true, true, true, true, true, true, true, true, false, false] rfl rfl (take_ofW HT_.out HW_.out (by kernel_rfl)) (fun _ _ _ h => h) (Or.inl ⟨by rfl, ?_⟩) hHeld ?_ ?_
                    rotate_left
                    · rintro w' ⟨s0, s1, s2, s3⟩
                      go_simp
                      with_reducible rfl
                    rotate_left
                    · simp only [Act.put, List.setIfInBounds_toArray, List.set_cons_zero, List.set_cons_succ, i64_w, i32_w]
                      rfl
                    refine one_ (i := 8) (N := some 27) #[true, true, true, true, true, true, true, true, true, false] rfl rfl (one_of HT_.out (by kernel_rfl)) (by decide) (fun K hK => ?_)
                    refine goes_ Try.func72 (by kernel_rfl) rfl #[.agg #[.int .i64 ((rd_T78 l0 x5_1).f0), .int .i64 ((rd_T78 l0 x5_1).f1)], .agg #[.int .i64 ((rd_T78 l1 x5_1).f0), .int .i64 ((rd_T78 l1 x5_1).f1)]] (by rfl) rfl rfl (by (try simp only [List.map_toArray, List.map_cons, List.map_nil]); first | done | rfl | (simp only [List.length_drop, List.length_take]; rfl)) ?_
                    with_reducible refine (virgationref09_Before.calls kj2 ((rd_T78 l0 x5_1).f0) ((rd_T78 l0 x5_1).f1) ((rd_T78 l1 x5_1).f0) ((rd_T78 l1 x5_1).f1) t170 _ A9.out).mono ?_
                    rintro e w14 ⟨rfl, hb⟩
                    refine ⟨_, rfl, ?_⟩
                    have n0_ := Aside0.mk (below_step (by repeat (first | (with_reducible first | exact HB.out | apply below_alloc | apply pw_below_drewN | apply below_drew1) | exact HB.out)) hb)
                    clear HB
                    have HB := n0_
                    clear n0_
                    (try clear hb)
                    (try clear hb2)
                    (try clear hk)
                    (try clear hi)
                    refine hK.out _ _ ⟨((HB.out.cell (World.block_lt_of_cell? w _ hw168_0)).trans hw168_0), ((HB.out.cell (World.block_lt_of_cell? w _ hw168_1)).trans hw168_1), ((HB.out.cell (World.block_lt_of_cell? w _ hw169_0)).trans hw169_0), ((HB.out.cell (World.block_lt_of_cell? w _ hw169_1)).trans hw169_1)⟩ (fun hHeld => ?_)
                    clear hK K
                    refine norm_ (a' := ?_) ?_ ?_
                    rotate_left
                    · show Act.put _ (some 27) _ = _
                      simp only [Act.put, List.setIfInBounds_toArray, List.set_cons_zero, List.set_cons_succ, i64_w, i32_w]
                      rfl
                    refine pure_ (i := 9) (N := some 6) (v := ?_) (a' := ?_) #[true, true, true, true, true, true, true, true, true, true] rfl rfl (any_of HT_.out (by kernel_rfl)) (fun _ _ _ h => h) (Or.inl ⟨by rfl, ?_⟩) ?_ ?_
                    rotate_left
                    · intro w'
                      go_simp
                      with_reducible rfl
                    rotate_left
                    · simp only [Act.put, List.setIfInBounds_toArray, List.set_cons_zero, List.set_cons_succ, i64_w, i32_w]
                      rfl
                    refine done_ (done_of HT_.out (by kernel_rfl)) ?_
                    try go_wp2
                    go_ret
                    exact ⟨by first | rfl | (simp [errW_none, errW_some] <;> rfl) | (simp [*, errW_none, errW_some] <;> rfl), by repeat (first | (with_reducible first | exact HB.out | apply below_alloc | apply pw_below_drewN | apply below_drew1) | exact HB.out)⟩
                · rw [if_neg c8] at H
                  exact absurd H (by simp)
              · rw [if_neg c7] at H
                exact absurd H (by simp)
            · rw [if_neg c6] at H
              exact absurd H (by simp)
          · replace c5 := Bool.eq_false_iff.mpr c5
            subst c5
            have H1 : (if (l0.length : Int) < (l1.length : Int) then (some (-1)) else (if (l0.length : Int) > (l1.length : Int) then (some 1) else (some 0))) = some r := by rw [if_neg (show ¬ (false = true) by decide)] at H; exact H
            clear H
            have H := H1
            clear H1
            by_cases c15 : (l0.length : Int) < (l1.length : Int)
            · rw [if_pos c15] at H
              have c15b0 : decide ((l0.length : Int) < (l1.length : Int)) = true := decide_eq_true c15
              have c15b1 : decide (l0.length < l1.length) = true := decide_eq_true (Int.ofNat_lt.mp c15)
              clear c15
              obtain rfl := Option.some.inj H
              go_wp2
              go_ret
              exact ⟨by first | rfl | (simp [errW_none, errW_some] <;> rfl) | (simp [*, errW_none, errW_some] <;> rfl), by repeat (first | (with_reducible first | exact HB.out | apply below_alloc | apply pw_below_drewN | apply below_drew1) | exact HB.out)⟩
            · rw [if_neg c15] at H
              have c15b0 : decide ((l0.length : Int) < (l1.length : Int)) = false := decide_eq_false c15
              have c15b1 : decide (l0.length < l1.length) = false := decide_eq_false (fun h => c15 (Int.ofNat_lt.mpr h))
              clear c15
              by_cases c16 : (l0.length : Int) > (l1.length : Int)
              · rw [if_pos c16] at H
                have c16b0 : decide ((l1.length : Int) < (l0.length : Int)) = true := decide_eq_true c16
                have c16b1 : decide (l1.length < l0.length) = true := decide_eq_true (Int.ofNat_lt.mp c16)
                clear c16
                obtain rfl := Option.some.inj H
                go_wp2
                go_ret
                exact ⟨by first | rfl | (simp [errW_none, errW_some] <;> rfl) | (simp [*, errW_none, errW_some] <;> rfl), by repeat (first | (with_reducible first | exact HB.out | apply below_alloc | apply pw_below_drewN | apply below_drew1) | exact HB.out)⟩
              · rw [if_neg c16] at H
                have c16b0 : decide ((l1.length : Int) < (l0.length : Int)) = false := decide_eq_false c16
                have c16b1 : decide (l1.length < l0.length) = false := decide_eq_false (fun h => c16 (Int.ofNat_lt.mpr h))
                clear c16
                obtain rfl := Option.some.inj H
                go_wp2
                go_ret
                exact ⟨by first | rfl | (simp [errW_none, errW_some] <;> rfl) | (simp [*, errW_none, errW_some] <;> rfl), by repeat (first | (with_reducible first | exact HB.out | apply below_alloc | apply pw_below_drewN | apply below_drew1) | exact HB.out)⟩
end Go.Proofs.Ytmphigeefppfpaa.Q
