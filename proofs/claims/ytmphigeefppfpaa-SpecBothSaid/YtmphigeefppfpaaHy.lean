/- The reference's least: what stands while it is walked. -/
import Derived.Test.YtmphigeefppfpaaHx
import Derived.Test.YtmphigeefppfpaaHg
import Derived.Laws.Rows
namespace Go.Proofs.Ytmphigeefppfpaa.H
open Go.RowKit Go.Proofs.YtmphigeefppfpaaW.PrintWords Go.Proofs.YtmphigeefppfpaaW.PrintLast Go.Proofs.YtmphigeefppfpaaW.PrintMore
set_option linter.unusedVariables false

theorem grown_set (W : World) (p : Addr) (u : Value) : W.grownBy (W.setCell p u) (some p.block) :=
  ⟨rfl, rfl, rfl, by simp [World.setCell], fun i _ hne => Below.heap_setCell W p u i (fun e => hne (by rw [e]))⟩
/-- The boxes of the call: the specification, and the result. -/
structure RB (w W : World) (n : Nat) (st : Int) (sv rv : Value) : Prop where
  hb : Below w.heap.size w W
  hs : W.heap[w.heap.size]? = some (.cells #[.int .i64 n, .int .i64 st, sv] 24 (0, 0))
  hr : W.heap[w.heap.size + 1]? = some (.cells #[.int .i64 0, .int .i64 0, rv] 24 (0, 0))
section
variable {w W W1 : World} {n : Nat} {st : Int} {sv rv cv nv : Value} {Sc Sn : Nat → Prop} {c next next' : List Int} {gb : Nat}
theorem RB.below (h : RB w W n st sv rv) (hb : Below W.heap.size W W1) : RB w W1 n st sv rv := ⟨below_then h.hb h.hb.size hb, blk_below h.hs hb, blk_below h.hr hb⟩
/-- A row of another type is written, one of the call's own. -/
theorem RB.row (h : RB w W n st sv rv) {cells : Array Value} {T : TypeId} (ht : W.heap[gb]? = some (.cells cells T (0, 0))) (hT : T ≠ 24) (hg : W.grownBy W1 (some gb)) (hgb : w.heap.size ≤ gb) : RB w W1 n st sv rv :=
  ⟨pw_below_grown h.hb _ h.hb.size hg (fun k hk => by cases hk; exact hgb), blk_grown h.hs hg (fun e => by injection e with e; exact blk_ne h.hs ht (Ne.symm hT) e), blk_grown h.hr hg (fun e => by injection e with e; exact blk_ne h.hr ht (Ne.symm hT) e)⟩
theorem RB.own {α : Type} {d : Kd α} {e : Nat} {S : Nat → Prop} {v : Value} {xs : List α} (h : RB w W n st sv rv) (hr : d.R e W w.heap.size S v xs) (he : e ≠ 24) (hg : W.grownBy W1 v.ownBlock) : RB w W1 n st sv rv := by
  refine ⟨pw_below_grown h.hb _ h.hb.size hg (fun k hk => Kd.R_base hr k hk), blk_grown h.hs hg (fun e2 => ?_), blk_grown h.hr hg (fun e2 => ?_)⟩
  · obtain ⟨cells, hc⟩ := Kd.R_typed hr _ e2.symm
    exact blk_ne h.hs hc (Ne.symm he) rfl
  · obtain ⟨cells, hc⟩ := Kd.R_typed hr _ e2.symm
    exact blk_ne h.hr hc (Ne.symm he) rfl
end
theorem ref_held {w W : World} {n : Nat} {st : Int} {sv rv : Value} {S : Nat → Prop} {adc : Addr} {N cc p q : Nat} {c : List Int} (h : RB w W n st sv rv) (hc : Kd.R (Kd.int .i64) 3 W w.heap.size S (.slice (some adc) N cc) c) (hl : c.length = N) (hp : p < N) (hq : q < N) :
    (W.cell? (adc.add p) = some (.int .i64 (rd c (p : Int))) ∧ W.cell? (adc.add q) = some (.int .i64 (rd c (q : Int)))) ∧ (W.cell? ⟨w.heap.size, 0, none⟩ = some (.int .i64 n) ∧ W.cell? ⟨w.heap.size, 1, none⟩ = some (.int .i64 st) ∧ W.cell? ⟨w.heap.size, 2, none⟩ = some sv) := by
  refine ⟨⟨?_, ?_⟩, (blk_cell h.hs 0).trans rfl, (blk_cell h.hs 1).trans rfl, (blk_cell h.hs 2).trans rfl⟩
  · obtain ⟨ad, e, hx⟩ := Kd.at_int (Kd.R_reads' hc).2.2 (p : Int) (by omega) (by omega)
    cases e; rwa [Int.toNat_natCast] at hx
  · obtain ⟨ad, e, hx⟩ := Kd.at_int (Kd.R_reads' hc).2.2 (q : Int) (by omega) (by omega)
    cases e; rwa [Int.toNat_natCast] at hx
/-- The reference's step between classes. -/
def stepR (l : List (List Int)) (K : List Int) (x : Int) (e : Nat) : Int × Bool := if (stepS l x e).2 then (rd K (stepS l x e).1, true) else (0, false)
noncomputable def rleastOf (n : Nat) (l : List (List Int)) (st : Int) : List (List Int) := (bfsTo n (stepR l (refCls n l l.length)) (rd (refCls n l l.length) st) l.length).1
def RLeastEnd (n : Nat) (l : List (List Int)) (st : Int) (w : World) (E : Ending) (w' : World) : Prop := ∃ (ov : Value) (So : Nat → Prop), E = .returned (.agg #[.int .i64 n, .int .i64 0, ov]) ∧ Kd.R (Kd.slice 3 (Kd.int .i64)) 25 w' w.heap.size So ov (rleastOf n l st) ∧ Below w.heap.size w w'

/-- The places, in a row that a state indexes. -/
def NumIs (ys q : List Int) (N : Nat) : Prop := ys.length = N ∧ ∀ p : Nat, p < N → rd ys (p : Int) = if (p : Int) ∈ q then (place (p : Int) q : Int) else -1
theorem rd_set {ys : List Int} {p k : Nat} (hp : p < ys.length) (hk : k < ys.length) (v : Int) : rd (ys.set k v) (p : Int) = if k = p then v else rd ys (p : Int) := by
  rw [rd_at (by rw [List.length_set]; exact hp), rd_at hp, List.getElem_set]
theorem NumIs.start {N : Nat} {c : Nat} (h : c < N) : NumIs ((List.replicate N (-1)).set c 0) [(c : Int)] N := by
  refine ⟨by simp, fun p hp => ?_⟩
  rw [rd_set (by simpa using hp) (by simpa using h), rd_at (by simpa using hp)]
  by_cases e : c = p
  · subst e; simp [place]
  · rw [if_neg e, if_neg (by simp; omega)]; simp
theorem NumIs.put {ys q : List Int} {N : Nat} (h : NumIs ys q N) {k : Nat} (hk : k < N) (hn : (k : Int) ∉ q) : NumIs (ys.set k (q.length : Int)) (q ++ [(k : Int)]) N := by
  refine ⟨by rw [List.length_set]; exact h.1, fun p hp => ?_⟩
  rw [rd_set (by rw [h.1]; exact hp) (by rw [h.1]; exact hk), h.2 p hp]
  by_cases e : k = p
  · subst e
    rw [if_pos rfl, if_pos (by simp)]
    simp [place, List.idxOf_append, hn]
  · rw [if_neg e]
    by_cases hm : (p : Int) ∈ q
    · rw [if_pos hm, if_pos (by simp [hm])]
      simp [place, List.idxOf_append, hm]
    · rw [if_neg hm, if_neg (by simp [hm]; omega)]
section
variable {α : Type} {d : Kd α} {e base B1 : Nat} {S : Nat → Prop} {W W1 : World} {v : Value} {xs : List α} {row : Option Nat}
theorem R_high (h : d.R e W base S v xs) (hg : W.grownBy W1 row) (hne : ∀ k, row = some k → k < base) : d.R e W1 base S v xs :=
  Kd.R_mono (Kd.R_step (Kd.R_bound h) (fun k hk hlt => hg.block k hlt (fun he => absurd (hne k he.symm) (by have := hk.2.1; omega)))) (fun k hk => hk.1)
theorem R_low (h : d.R e W base (fun k => k < B1) v xs) (hg : W.grownBy W1 row) (hne : ∀ k, row = some k → B1 ≤ k) : d.R e W1 base (fun k => k < B1) v xs :=
  Kd.R_mono (R_stay h hg (fun k hk hlt => absurd (hne k hk) (by omega))) (fun k hk => hk.1)
end
/-- What stands while the new machine is numbered: the places, the order, the rows, the row that grows. -/
structure RQ (wl W : World) (N n ob nb cn B1 : Nat) (bv qv ov rv : Value) (Sq So Sr : Nat → Prop) (qn q : List Int) (o : List (List Int)) (r : List Int) : Prop where
  hb : Below wl.heap.size wl W
  h1 : wl.heap.size ≤ nb ∧ nb < B1 ∧ B1 ≤ W.heap.size ∧ B1 ≤ ob
  ho : W.heap[ob]? = some (.cells #[.int .i64 n, .int .i64 0, bv] 24 (0, 0))
  hN : ∃ ys, NumIs ys qn N ∧ Kd.R (Kd.int .i64) 3 W wl.heap.size (fun k => k < B1) (.slice (some ⟨nb, 0, none⟩) N cn) ys
  hQ : Kd.R (Kd.int .i64) 3 W B1 Sq qv q
  hO : Kd.R (Kd.slice 3 (Kd.int .i64)) 25 W B1 So ov o
  hR : Kd.R (Kd.int .i64) 3 W B1 Sr rv r
  dqo : Disj Sq So
  dqr : Disj Sq Sr
  dor : Disj So Sr
section
variable {wl W W1 : World} {N n ob nb cn B1 : Nat} {bv qv ov rv qv1 ov1 rv1 : Value} {Sq So Sr : Nat → Prop} {qn qn1 q q1 : List Int} {o o1 : List (List Int)} {r r1 ys : List Int}
theorem RQ.drewN (h : RQ wl W N n ob nb cn B1 bv qv ov rv Sq So Sr qn q o r) (m : Nat) : RQ wl (W.drewN m) N n ob nb cn B1 bv qv ov rv Sq So Sr qn q o r :=
  have hd := pw_below_drewN (Below.refl W.heap.size W) m
  ⟨below_then h.hb h.hb.size hd, ⟨h.h1.1, h.h1.2.1, Nat.le_trans h.h1.2.2.1 hd.size, h.h1.2.2.2⟩, blk_below h.ho hd, h.hN.imp fun _ hy => ⟨hy.1, Kd.R_drewN hy.2 m⟩, Kd.R_drewN h.hQ m, Kd.R_drewN h.hO m, Kd.R_drewN h.hR m, h.dqo, h.dqr, h.dor⟩
theorem RQ.write (h : RQ wl W N n ob nb cn B1 bv qv ov rv Sq So Sr qn q o r) (hy : NumIs ys qn1 N) (hr : Kd.R (Kd.int .i64) 3 W1 wl.heap.size (fun k => k < B1) (.slice (some ⟨nb, 0, none⟩) N cn) ys) (hg : W.grownBy W1 (some nb)) : RQ wl W1 N n ob nb cn B1 bv qv ov rv Sq So Sr qn1 q o r := by
  obtain ⟨a1, a2, a3, a4⟩ := h.h1
  have hne : ∀ k, some nb = some k → k < B1 := fun k hk => by cases hk; exact a2
  exact ⟨pw_below_grown h.hb _ h.hb.size hg (fun k hk => by cases hk; exact a1), ⟨a1, a2, Nat.le_trans a3 hg.size, a4⟩, blk_grown h.ho hg (fun e => by injection e with e; omega), ⟨ys, hy, hr⟩, R_high h.hQ hg hne, R_high h.hO hg hne, R_high h.hR hg hne, h.dqo, h.dqr, h.dor⟩
theorem RQ.appQ (h : RQ wl W N n ob nb cn B1 bv qv ov rv Sq So Sr qn q o r) (hq : Kd.R (Kd.int .i64) 3 W1 B1 (fun k => Sq k ∨ W.heap.size ≤ k) qv1 q1) (hg : W.grownBy W1 qv.ownBlock) : RQ wl W1 N n ob nb cn B1 bv qv1 ov rv (fun k => Sq k ∨ W.heap.size ≤ k) (fun k => So k ∧ k < W.heap.size) (fun k => Sr k ∧ k < W.heap.size) qn q1 o r := by
  obtain ⟨a1, a2, a3, a4⟩ := h.h1
  have hbase := Kd.R_base h.hQ
  refine ⟨pw_below_grown h.hb _ h.hb.size hg (fun k hk => by have := hbase k hk; omega), ⟨a1, a2, Nat.le_trans a3 hg.size, a4⟩, blk_grown h.ho hg (fun e => ?_), h.hN.imp fun ys hy => ⟨hy.1, R_low hy.2 hg hbase⟩, hq, R_stay h.hO hg (fun k hk hs => h.dqo k (h.hQ.1 k hk) hs), R_stay h.hR hg (fun k hk hs => h.dqr k (h.hQ.1 k hk) hs), h.dqo.fresh _, h.dqr.fresh _, h.dor.less _⟩
  obtain ⟨cells, hc⟩ := Kd.R_typed h.hQ _ e.symm
  exact blk_ne h.ho hc (by decide) rfl
theorem RQ.appR (h : RQ wl W N n ob nb cn B1 bv qv ov rv Sq So Sr qn q o r) (hq : Kd.R (Kd.int .i64) 3 W1 B1 (fun k => Sr k ∨ W.heap.size ≤ k) rv1 r1) (hg : W.grownBy W1 rv.ownBlock) : RQ wl W1 N n ob nb cn B1 bv qv ov rv1 (fun k => Sq k ∧ k < W.heap.size) (fun k => So k ∧ k < W.heap.size) (fun k => Sr k ∨ W.heap.size ≤ k) qn q o r1 := by
  obtain ⟨a1, a2, a3, a4⟩ := h.h1
  have hbase := Kd.R_base h.hR
  refine ⟨pw_below_grown h.hb _ h.hb.size hg (fun k hk => by have := hbase k hk; omega), ⟨a1, a2, Nat.le_trans a3 hg.size, a4⟩, blk_grown h.ho hg (fun e => ?_), h.hN.imp fun ys hy => ⟨hy.1, R_low hy.2 hg hbase⟩, R_stay h.hQ hg (fun k hk hs => h.dqr k hs (h.hR.1 k hk)), R_stay h.hO hg (fun k hk hs => h.dor k hs (h.hR.1 k hk)), hq, h.dqo.less _, (h.dqr.symm.fresh _).symm, (h.dor.symm.fresh _).symm⟩
  obtain ⟨cells, hc⟩ := Kd.R_typed h.hR _ e.symm
  exact blk_ne h.ho hc (by decide) rfl
theorem RQ.appO (h : RQ wl W N n ob nb cn B1 bv qv ov rv Sq So Sr qn q o r) (hq : Kd.R (Kd.slice 3 (Kd.int .i64)) 25 W1 B1 (fun k => (So k ∨ Sr k) ∨ W.heap.size ≤ k) ov1 o1) (hg : W.grownBy W1 ov.ownBlock) : RQ wl W1 N n ob nb cn B1 bv qv ov1 (.slice none 0 0) (fun k => Sq k ∧ k < W.heap.size) (fun k => (So k ∨ Sr k) ∨ W.heap.size ≤ k) (fun _ => False) qn q o1 [] := by
  obtain ⟨a1, a2, a3, a4⟩ := h.h1
  have hbase := Kd.R_base h.hO
  refine ⟨pw_below_grown h.hb _ h.hb.size hg (fun k hk => by have := hbase k hk; omega), ⟨a1, a2, Nat.le_trans a3 hg.size, a4⟩, blk_grown h.ho hg (fun e => ?_), h.hN.imp fun ys hy => ⟨hy.1, R_low hy.2 hg hbase⟩, R_stay h.hQ hg (fun k hk hs => h.dqo k hs (h.hO.1 k hk)), hq, Kd.R_nil _ _ _ _ _, fun k ha hb => ?_, fun _ _ h => h, fun _ _ h => h⟩
  · obtain ⟨cells, hc⟩ := Kd.R_typed h.hO _ e.symm
    exact blk_ne h.ho hc (by decide) rfl
  · rcases hb with (hb | hb) | hb
    · exact h.dqo k ha.1 hb
    · exact h.dqr k ha.1 hb
    · have := ha.2; omega
theorem RQ.put (h : RQ wl W N n ob nb cn B1 bv qv ov rv Sq So Sr qn q o r) (bv1 : Value) : RQ wl (W.setCell ⟨ob, 2, none⟩ bv1) N n ob nb cn B1 bv1 qv ov rv Sq So Sr qn q o r := by
  obtain ⟨a1, a2, a3, a4⟩ := h.h1
  have hg := grown_setCell W ⟨ob, 2, none⟩ bv1
  exact ⟨pw_below_grown h.hb _ h.hb.size hg (fun k hk => by cases hk; show _ ≤ ob; omega), ⟨a1, a2, Nat.le_trans a3 hg.size, a4⟩, blk_set h.ho 2 bv1, h.hN.imp fun ys hy => ⟨hy.1, R_offrow hy.2 h.ho (by simp [Kd.int, Kd.scalar]) hg⟩, R_offrow h.hQ h.ho (by simp [Kd.int, Kd.scalar]) hg, R_offrow h.hO h.ho (by simp [Kd.slice, Kd.int, Kd.scalar]) hg, R_offrow h.hR h.ho (by simp [Kd.int, Kd.scalar]) hg, h.dqo, h.dqr, h.dor⟩
end
end Go.Proofs.Ytmphigeefppfpaa.H
