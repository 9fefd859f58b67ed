/- spec.product's step, and spec.product. -/
import Derived.Test.YtmphigeefppfpaaIe
import Derived.Test.YtmphigeefppfpaaIc
namespace Go.Proofs.Ytmphigeefppfpaa.H
open Go.RowKit Go.Proofs.YtmphigeefppfpaaW.PrintWords Go.Proofs.YtmphigeefppfpaaW.PrintLast Go.Proofs.YtmphigeefppfpaaW.PrintMore
set_option linter.unusedVariables false

/-- The state behind an event, or -1. -/
def nextB (l : List (List Int)) (q e : Int) : Int := if q < 0 then -1 else stepAt l q e
def domN (l : List (List Int)) (q : Int) : Prop := -1 ≤ q ∧ q < (l.length : Int)
theorem nextB_dom {ev st : Int} {l : List (List Int)} (hs : specOk ev st l = true) {q e : Int} (hq : domN l q) (h0 : 0 ≤ e) (h1 : e < ev) : domN l (nextB l q e) := by
  unfold nextB
  split
  · exact ⟨by omega, by have := (spec_table hs).2.2.2.2.1; omega⟩
  · exact stepAt_range hs (by omega) hq.2 h0 h1
theorem next_val {ev st : Int} {l : List (List Int)} (hs : specOk ev st l = true) {q e : Int} (hq : domN l q) (h0 : 0 ≤ e) (h1 : e < ev) : Q.spec_next.f ev st l q e = some (nextB l q e) := by
  unfold Q.spec_next.f nextB stepAt
  by_cases hn : q < 0
  · rw [if_pos hn, if_pos hn]
  · have hl := (specOk_row hs (q := q) (by omega) hq.2).1
    rw [if_neg hn, if_neg hn, if_pos (by omega), if_pos hq.2, if_pos h0, if_pos (by omega)]
theorem next_calls {ev st : Int} {l : List (List Int)} (hs : specOk ev st l = true) {q e : Int} (hq : domN l q) (h0 : 0 ≤ e) (h1 : e < ev) (A : Option Addr) (c : Nat) (w : World) (hr : Kd.C (Kd.slice 3 (Kd.int .i64)) w A l.length l) (hc : l.length ≤ c) :
    Calls Try.prog 44 #[.agg #[.int .i64 ev, .int .i64 st, .slice A l.length c], .int .i64 q, .int .i64 e] w fun E w' => E = .returned (.int .i64 (nextB l q e)) ∧ Below w.heap.size w w' :=
  Q.spec_next.calls ev st A c l q e _ w hr hc (next_val hs hq h0 h1)
def MayW (g : Nat) (may : Int → Int → Bool) : Prop := ∀ W x y, Calls Try.prog g #[.int .i64 x, .int .i64 y] W fun E w' => E = .returned (.bool (may x y)) ∧ Below W.heap.size W w'
/-- The boxes that the step captures. -/
structure PB (w W : World) (ba bb bf g : Nat) (va vb : Array Value) (x : Int × Int) : Prop where
  hb : Below w.heap.size w W
  ha : W.heap[ba]? = some (.cells va 24 (0, 0))
  hbb : W.heap[bb]? = some (.cells vb 24 (0, 0))
  hf : W.heap[bf]? = some (.cells #[.func (.func g) #[] #[]] 71 (0, 0))
  hx : W.heap[w.heap.size]? = some (.cells #[.int .i64 x.1, .int .i64 x.2] 56 (0, 0))
  hr : W.heap[w.heap.size + 1]? = some (.cells #[.int .i64 0, .int .i64 0] 56 (0, 0))
section
variable {w W W1 : World} {ba bb bf g : Nat} {va vb : Array Value} {x : Int × Int} {a b c d e f : Value}
theorem PB.below (h : PB w W ba bb bf g va vb x) (hb : Below W.heap.size W W1) : PB w W1 ba bb bf g va vb x := ⟨below_then h.hb h.hb.size hb, blk_below h.ha hb, blk_below h.hbb hb, blk_below h.hf hb, blk_below h.hx hb, blk_below h.hr hb⟩
theorem PB.top (h : PB w W ba bb bf g va vb x) : w.heap.size + 1 < W.heap.size := (Array.getElem?_eq_some_iff.1 h.hr).1
/-- The new pair is written into a box of the call's own. -/
theorem PB.put2 {b9 : Nat} {cells : Array Value} (h : PB w W ba bb bf g va vb x) (h9 : W.heap[b9]? = some (.cells cells 56 (0, 0))) (hb9 : w.heap.size + 1 < b9) (u v : Value) : PB w ((W.setCell ⟨b9, 0, none⟩ u).setCell ⟨b9, 1, none⟩ v) ba bb bf g va vb x := by
  have g1 := grown_setCell W ⟨b9, 0, none⟩ u
  have g2 := grown_setCell (W.setCell ⟨b9, 0, none⟩ u) ⟨b9, 1, none⟩ v
  have hne : ∀ {k : Nat} {cs : Array Value} {T : TypeId}, W.heap[k]? = some (.cells cs T (0, 0)) → T ≠ 56 → some k ≠ some b9 := fun hk hT e => by injection e with e; exact blk_ne hk h9 hT e
  have hn1 : some w.heap.size ≠ some b9 := fun e => by injection e with e; omega
  have hn2 : some (w.heap.size + 1) ≠ some b9 := fun e => by injection e with e; omega
  exact ⟨pw_below_grown (pw_below_grown h.hb _ h.hb.size g1 (fun k hk => by cases hk; show w.heap.size ≤ b9; omega)) _ (Nat.le_trans h.hb.size g1.size) g2 (fun k hk => by cases hk; show w.heap.size ≤ b9; omega),
    blk_grown (blk_grown h.ha g1 (hne h.ha (by decide))) g2 (hne h.ha (by decide)), blk_grown (blk_grown h.hbb g1 (hne h.hbb (by decide))) g2 (hne h.hbb (by decide)), blk_grown (blk_grown h.hf g1 (hne h.hf (by decide))) g2 (hne h.hf (by decide)), blk_grown (blk_grown h.hx g1 hn1) g2 hn1, blk_grown (blk_grown h.hr g1 hn2) g2 hn2⟩
theorem PB.pairc {b9 : Nat} (h : PB w W ba bb bf g va vb x) (h9 : W.heap[b9]? = some (.cells #[a, b] 56 (0, 0))) : (W.cell? ⟨b9, 0, none⟩ = some a ∧ W.cell? ⟨b9, 1, none⟩ = some b) ∧ W.cell? ⟨bf, 0, none⟩ = some (.func (.func g) #[] #[]) :=
  ⟨⟨(blk_cell h9 0).trans rfl, (blk_cell h9 1).trans rfl⟩, (blk_cell h.hf 0).trans rfl⟩
/-- The pair is written into the box that goes out. -/
def outP (w W : World) (u v : Value) : World := (W.setCell ⟨w.heap.size + 1, 0, none⟩ u).setCell ⟨w.heap.size + 1, 1, none⟩ v
theorem PB.pairo {b9 : Nat} (h : PB w W ba bb bf g va vb x) (h9 : W.heap[b9]? = some (.cells #[a, b] 56 (0, 0))) (hb9 : w.heap.size + 1 < b9) (u v : Value) : ((outP w W u v).cell? ⟨b9, 0, none⟩ = some a ∧ (outP w W u v).cell? ⟨b9, 1, none⟩ = some b) ∧ (outP w W u v).cell? ⟨bf, 0, none⟩ = some (.func (.func g) #[] #[]) := by
  have g1 := grown_setCell W ⟨w.heap.size + 1, 0, none⟩ u
  have g2 := grown_setCell (W.setCell ⟨w.heap.size + 1, 0, none⟩ u) ⟨w.heap.size + 1, 1, none⟩ v
  have n9 : some b9 ≠ some (w.heap.size + 1) := fun e => by injection e with e; omega
  have nf : some bf ≠ some (w.heap.size + 1) := fun e => by injection e with e; exact blk_ne h.hf h.hr (by decide) e
  have k9 := blk_grown (blk_grown h9 g1 n9) g2 n9
  have kf := blk_grown (blk_grown h.hf g1 nf) g2 nf
  exact ⟨⟨(blk_cell k9 0).trans rfl, (blk_cell k9 1).trans rfl⟩, (blk_cell kf 0).trans rfl⟩
theorem PB.out (h : PB w W ba bb bf g va vb x) (u v : Value) : (outP w W u v).heap[w.heap.size + 1]? = some (.cells #[u, v] 56 (0, 0)) ∧ Below w.heap.size w (outP w W u v) := by
  have g1 := grown_setCell W ⟨w.heap.size + 1, 0, none⟩ u
  have g2 := grown_setCell (W.setCell ⟨w.heap.size + 1, 0, none⟩ u) ⟨w.heap.size + 1, 1, none⟩ v
  exact ⟨blk_set (blk_set h.hr 0 u) 1 v, pw_below_grown (pw_below_grown h.hb _ h.hb.size g1 (fun k hk => by cases hk; exact Nat.le_succ _)) _ (Nat.le_trans h.hb.size g1.size) g2 (fun k hk => by cases hk; exact Nat.le_succ _)⟩
def PBc (w W : World) (ba bb bf g : Nat) (a b c d e f : Value) (x : Int × Int) : Prop := ((W.cell? ⟨ba, 0, none⟩ = some a ∧ W.cell? ⟨ba, 1, none⟩ = some b ∧ W.cell? ⟨ba, 2, none⟩ = some c) ∧ (W.cell? ⟨bb, 0, none⟩ = some d ∧ W.cell? ⟨bb, 1, none⟩ = some e ∧ W.cell? ⟨bb, 2, none⟩ = some f)) ∧ (W.cell? ⟨w.heap.size, 0, none⟩ = some (.int .i64 x.1) ∧ W.cell? ⟨w.heap.size, 1, none⟩ = some (.int .i64 x.2)) ∧ W.cell? ⟨bf, 0, none⟩ = some (.func (.func g) #[] #[])
theorem PB.cells (h : PB w W ba bb bf g #[a, b, c] #[d, e, f] x) : ((W.cell? ⟨ba, 0, none⟩ = some a ∧ W.cell? ⟨ba, 1, none⟩ = some b ∧ W.cell? ⟨ba, 2, none⟩ = some c) ∧ (W.cell? ⟨bb, 0, none⟩ = some d ∧ W.cell? ⟨bb, 1, none⟩ = some e ∧ W.cell? ⟨bb, 2, none⟩ = some f)) ∧ (W.cell? ⟨w.heap.size, 0, none⟩ = some (.int .i64 x.1) ∧ W.cell? ⟨w.heap.size, 1, none⟩ = some (.int .i64 x.2)) :=
  ⟨⟨⟨(blk_cell h.ha 0).trans rfl, (blk_cell h.ha 1).trans rfl, (blk_cell h.ha 2).trans rfl⟩, (blk_cell h.hbb 0).trans rfl, (blk_cell h.hbb 1).trans rfl, (blk_cell h.hbb 2).trans rfl⟩, (blk_cell h.hx 0).trans rfl, (blk_cell h.hx 1).trans rfl⟩
end

set_option maxHeartbeats 4000000 in
theorem step_calls (g : Nat) (may : Int → Int → Bool) (hm : MayW g may) (ev sa sb : Int) (A B : Option Addr) (ca cb : Nat) (la lb : List (List Int)) (ba bb bf : Nat) (x : Int × Int) (e : Nat) (w : World)
    (hsa : specOk ev sa la = true) (hsb : specOk ev sb lb = true) (hx : domN la x.1 ∧ domN lb x.2) (he : (e : Int) < ev)
    (ha : w.heap[ba]? = some (.cells #[.int .i64 ev, .int .i64 sa, .slice A la.length ca] 24 (0, 0))) (hb : w.heap[bb]? = some (.cells #[.int .i64 ev, .int .i64 sb, .slice B lb.length cb] 24 (0, 0))) (hf : w.heap[bf]? = some (.cells #[.func (.func g) #[] #[]] 71 (0, 0)))
    (hra : Kd.C (Kd.slice 3 (Kd.int .i64)) w A la.length la) (hca : la.length ≤ ca) (hrb : Kd.C (Kd.slice 3 (Kd.int .i64)) w B lb.length lb) (hcb : lb.length ≤ cb)
    (eg : ∀ args w, (callFunc g args).run Try.prog w = .ok (.enter g args) w) :
    Calls Try.prog 68 #[.agg #[.int .i64 x.1, .int .i64 x.2], .int .i64 e, .pointer (some ⟨ba, 0, none⟩), .pointer (some ⟨bb, 0, none⟩), .pointer (some ⟨bf, 0, none⟩)] w fun E w' =>
      E = .returned (.tuple #[.agg #[.int .i64 (nextB la x.1 e), .int .i64 (nextB lb x.2 e)], .bool (may (nextB la x.1 e) (nextB lb x.2 e))]) ∧ Below w.heap.size w w' := by
  have H1 := Aside0.mk fun W (hW : Below w.heap.size w W) => next_calls hsa hx.1 (Int.natCast_nonneg e) he A ca W (Kd.C_below hra hW) hca
  have H2 := Aside0.mk fun W (hW : Below w.heap.size w W) => next_calls hsb hx.2 (Int.natCast_nonneg e) he B cb W (Kd.C_below hrb hW) hcb
  have H3 := Aside0.mk (show ∀ W x y, Calls Try.prog g #[.int .i64 x, .int .i64 y] W fun E w' => E = .returned (.bool (may x y)) ∧ Below W.heap.size W w' from hm)
  have HS0 := Aside0.mk (PB.mk (w := w) (W := (w.alloc (.cells #[.int .i64 x.1, .int .i64 x.2] 56)).alloc (.cells #[.int .i64 0, .int .i64 0] 56)) (x := x) (below_alloc (below_alloc (Below.refl _ _) _) _) (blk_alloc (blk_alloc ha _) _) (blk_alloc (blk_alloc hb _) _) (blk_alloc (blk_alloc hf _) _) (blk_alloc (blk_new _ _) _) (blk_at2 _ _ _))
  clear hsa hsb hx he ha hb hf hra hca hrb hcb hm
  generalize nextB la x.1 e = y1 at *
  generalize nextB lb x.2 e = y2 at *
  go_enter Try.func68, Try.ntmps68
  go_upto_region 1 with (fail)
  generalize ((w.alloc (.cells #[.int .i64 x.1, .int .i64 x.2] 56)).alloc (.cells #[.int .i64 0, .int .i64 0] 56)) = w0 at *
  have HS := (HS0.out).below (W1 := w0.drew) (below_drew (Below.refl _ _))
  go_region_held3 (fun w' => ((w'.cell? ⟨ba, 0, none⟩ = some (.int .i64 ev) ∧ w'.cell? ⟨ba, 1, none⟩ = some (.int .i64 sa) ∧ w'.cell? ⟨ba, 2, none⟩ = some (.slice A la.length ca)) ∧ (w'.cell? ⟨bb, 0, none⟩ = some (.int .i64 ev) ∧ w'.cell? ⟨bb, 1, none⟩ = some (.int .i64 sb) ∧ w'.cell? ⟨bb, 2, none⟩ = some (.slice B lb.length cb))) ∧ (w'.cell? ⟨w.heap.size, 0, none⟩ = some (.int .i64 x.1) ∧ w'.cell? ⟨w.heap.size, 1, none⟩ = some (.int .i64 x.2)))
    (first | exact HS.cells | exact HS1.cells | exact HS2.cells | exact PB.cells (HS2.put2 HN2 HT _ _) | exact PB.cells (PB.below HS0.out (below_drew (below_alloc (Below.refl w0.heap.size w0) (.cells #[.int .i64 0, .int .i64 0] 56)))) | exact PB.cells (PB.below HS1 (below_alloc (Below.refl _ _) _)) | exact PB.cells (PB.below HS2 (below_alloc (Below.refl _ _) _)) | fail)
    (first
      | (go_at_call 44; (first | (with_reducible refine (H1.out _ HS.hb).mono ?_) | (have HN : ((w0.alloc (.cells #[.int .i64 0, .int .i64 0] 56)).drew).heap[w0.heap.size]? = some (.cells #[.int .i64 0, .int .i64 0] 56 (0, 0)) := blk_drew (blk_new w0 _); have HT : w.heap.size + 1 < w0.heap.size := (HS0.out).top; have HS := (HS0.out).below (below_drew (below_alloc (Below.refl w0.heap.size w0) (.cells #[.int .i64 0, .int .i64 0] 56))); with_reducible refine (H1.out _ HS.hb).mono ?_)); rintro E w1 ⟨rfl, hb⟩; have HS1 := HS.below hb; (try have HN1 := blk_below HN hb); clear hb; (try clear HN); clear HS)
      | (go_at_call 44; (first | (with_reducible refine (H2.out _ HS1.hb).mono ?_) | (have HN1 : (w1.alloc (.cells #[.int .i64 0, .int .i64 0] 56)).heap[w1.heap.size]? = some (.cells #[.int .i64 0, .int .i64 0] 56 (0, 0)) := blk_new w1 _; have HT : w.heap.size + 1 < w1.heap.size := HS1.top; have HS1 := HS1.below (below_alloc (Below.refl _ _) (.cells #[.int .i64 0, .int .i64 0] 56)); with_reducible refine (H2.out _ HS1.hb).mono ?_)); rintro E w2 ⟨rfl, hb⟩; have HS2 := HS1.below hb; (try have HN2 := blk_below HN1 hb); clear hb; (try clear HN1); clear HS1; (try (have hk0 := (blk_cell HN2 0).trans rfl; have hk1 := (blk_cell HN2 1).trans rfl; have hf0 := blk_frozen HN2 0; have hf1 := blk_frozen HN2 1)))
      | fail)
  all_goals clear H1 H2 HS0
  · have HY := Aside0.mk (blk_new w2 (.cells #[.int .i64 y1, .int .i64 y2] 56))
    have HS3 := HS2.below (below_alloc (Below.refl w2.heap.size w2) (.cells #[.int .i64 y1, .int .i64 y2] 56))
    have HT := HS2.top
    clear HS2
    generalize (w2.alloc (.cells #[.int .i64 y1, .int .i64 y2] 56)) = w3 at *
    generalize w2.heap.size = b9 at *
    have HS4 := HS3.below (W1 := w3.drew) (below_drew (Below.refl _ _))
    have HY4 := blk_drew HY.out
    clear HS3 HY
    go_wp2
    go_region_held3 (fun w' => (w'.cell? ⟨b9, 0, none⟩ = some (.int .i64 y1) ∧ w'.cell? ⟨b9, 1, none⟩ = some (.int .i64 y2)) ∧ w'.cell? ⟨bf, 0, none⟩ = some (.func (.func g) #[] #[]))
      (first | exact PB.pairc HS4 HY4 | exact PB.pairc HS5 HY5 | exact PB.pairo HS5 HY5 HT _ _ | fail)
      (first | ((with_reducible refine (H3.out _ _ _).mono ?_); rintro E w4 ⟨rfl, hb⟩; have HS5 := HS4.below hb; have HY5 := blk_below HY4 hb; have hk0 := (blk_cell HS5.hr 0).trans rfl; have hk1 := (blk_cell HS5.hr 1).trans rfl; have hf0 := blk_frozen HS5.hr 0; have hf1 := blk_frozen HS5.hr 1; clear hb HS4 HY4) | fail)
    clear hk0 hk1 hf0 hf1
    obtain ⟨hblk, hbl⟩ := HS5.out (.int .i64 y1) (.int .i64 y2)
    unfold outP at hblk hbl
    go_wp2
    refine bodyPost_ret (results_row_tmp rfl _ _ (w.heap.size + 1) 56 #[.int .i64 y1, .int .i64 y2] (0, 0) _ rfl hblk Try.underlying56 rfl (by kernel_rfl)) rfl ?_
    exact ⟨rfl, hbl⟩
  · have HY := Aside0.mk (show ((w2.setCell ⟨w1.heap.size, 0, none⟩ (.int .i64 y1)).setCell ⟨w1.heap.size, 1, none⟩ (.int .i64 y2)).heap[w1.heap.size]? = some (.cells #[.int .i64 y1, .int .i64 y2] 56 (0, 0)) from blk_set (blk_set HN2 0 (.int .i64 y1)) 1 (.int .i64 y2))
    have HS3 := HS2.put2 HN2 HT (.int .i64 y1) (.int .i64 y2)
    clear HS2 HN2 hk0 hk1 hf0 hf1
    generalize ((w2.setCell ⟨w1.heap.size, 0, none⟩ (.int .i64 y1)).setCell ⟨w1.heap.size, 1, none⟩ (.int .i64 y2)) = w3 at *
    generalize w1.heap.size = b9 at *
    have HS4 := HS3.below (W1 := w3.drew) (below_drew (Below.refl _ _))
    have HY4 := blk_drew HY.out
    clear HS3 HY
    go_wp2
    go_region_held3 (fun w' => (w'.cell? ⟨b9, 0, none⟩ = some (.int .i64 y1) ∧ w'.cell? ⟨b9, 1, none⟩ = some (.int .i64 y2)) ∧ w'.cell? ⟨bf, 0, none⟩ = some (.func (.func g) #[] #[]))
      (first | exact PB.pairc HS4 HY4 | exact PB.pairc HS5 HY5 | exact PB.pairo HS5 HY5 HT _ _ | fail)
      (first | ((with_reducible refine (H3.out _ _ _).mono ?_); rintro E w4 ⟨rfl, hb⟩; have HS5 := HS4.below hb; have HY5 := blk_below HY4 hb; have hk0 := (blk_cell HS5.hr 0).trans rfl; have hk1 := (blk_cell HS5.hr 1).trans rfl; have hf0 := blk_frozen HS5.hr 0; have hf1 := blk_frozen HS5.hr 1; clear hb HS4 HY4) | fail)
    clear hk0 hk1 hf0 hf1
    obtain ⟨hblk, hbl⟩ := HS5.out (.int .i64 y1) (.int .i64 y2)
    unfold outP at hblk hbl
    go_wp2
    refine bodyPost_ret (results_row_tmp rfl _ _ (w.heap.size + 1) 56 #[.int .i64 y1, .int .i64 y2] (0, 0) _ rfl hblk Try.underlying56 rfl (by kernel_rfl)) rfl ?_
    exact ⟨rfl, hbl⟩
  · have HY := Aside0.mk (show ((w2.setCell ⟨w0.heap.size, 0, none⟩ (.int .i64 y1)).setCell ⟨w0.heap.size, 1, none⟩ (.int .i64 y2)).heap[w0.heap.size]? = some (.cells #[.int .i64 y1, .int .i64 y2] 56 (0, 0)) from blk_set (blk_set HN2 0 (.int .i64 y1)) 1 (.int .i64 y2))
    have HS3 := HS2.put2 HN2 HT (.int .i64 y1) (.int .i64 y2)
    clear HS2 HN2 hk0 hk1 hf0 hf1
    generalize ((w2.setCell ⟨w0.heap.size, 0, none⟩ (.int .i64 y1)).setCell ⟨w0.heap.size, 1, none⟩ (.int .i64 y2)) = w3 at *
    generalize w0.heap.size = b9 at *
    have HS4 := HS3.below (W1 := w3.drew) (below_drew (Below.refl _ _))
    have HY4 := blk_drew HY.out
    clear HS3 HY
    go_wp2
    go_region_held3 (fun w' => (w'.cell? ⟨b9, 0, none⟩ = some (.int .i64 y1) ∧ w'.cell? ⟨b9, 1, none⟩ = some (.int .i64 y2)) ∧ w'.cell? ⟨bf, 0, none⟩ = some (.func (.func g) #[] #[]))
      (first | exact PB.pairc HS4 HY4 | exact PB.pairc HS5 HY5 | exact PB.pairo HS5 HY5 HT _ _ | fail)
      (first | ((with_reducible refine (H3.out _ _ _).mono ?_); rintro E w4 ⟨rfl, hb⟩; have HS5 := HS4.below hb; have HY5 := blk_below HY4 hb; have hk0 := (blk_cell HS5.hr 0).trans rfl; have hk1 := (blk_cell HS5.hr 1).trans rfl; have hf0 := blk_frozen HS5.hr 0; have hf1 := blk_frozen HS5.hr 1; clear hb HS4 HY4) | fail)
    clear hk0 hk1 hf0 hf1
    obtain ⟨hblk, hbl⟩ := HS5.out (.int .i64 y1) (.int .i64 y2)
    unfold outP at hblk hbl
    go_wp2
    refine bodyPost_ret (results_row_tmp rfl _ _ (w.heap.size + 1) 56 #[.int .i64 y1, .int .i64 y2] (0, 0) _ rfl hblk Try.underlying56 rfl (by kernel_rfl)) rfl ?_
    exact ⟨rfl, hbl⟩
end Go.Proofs.Ytmphigeefppfpaa.H
