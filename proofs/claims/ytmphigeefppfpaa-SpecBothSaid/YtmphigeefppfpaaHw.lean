/- The least table of a language, and that spec.least makes it. Plain Lean. -/
import Derived.Test.YtmphigeefppfpaaHv
namespace Go.Proofs.Ytmphigeefppfpaa.H
open Go.RowKit Go.Proofs.YtmphigeefppfpaaW.PrintWords Go.Proofs.YtmphigeefppfpaaW.PrintLast Go.Proofs.YtmphigeefppfpaaW.PrintMore
set_option linter.unusedVariables false

theorem firsts_le (A : Nat → Int) (N : Nat) : (firsts A N).length ≤ N := by
  have := List.length_filter_le (fun i => (List.range i).all fun j => decide (A j ≠ A i)) (List.range N)
  simpa [firsts] using this
theorem cls_sub {n : Nat} {g : List (List Int)} (hok : graphOk n g) (hg : 1 ≤ g.length) (k : Nat) : ∀ p q : Nat, p < g.length → q < g.length → clsAt g (k + 1) p = clsAt g (k + 1) q → clsAt g k p = clsAt g k q := fun p q hp hq h =>
  (((cls_refines hok hg).succ k p q ⟨by omega, by omega⟩ ⟨by omega, by omega⟩).1 h).1
theorem cls_stop {n : Nat} {g : List (List Int)} (hok : graphOk n g) (hg : 1 ≤ g.length) : ∃ k, (clsTo g (k + 1)).2 = (clsTo g k).2 ∧ ∀ j, j < k → (clsTo g (j + 1)).2 ≠ (clsTo g j).2 := by
  refine exists_least ?_
  have hmono : ∀ k, (clsTo g k).2 ≤ (clsTo g (k + 1)).2 := fun k => by
    rw [cls_many hok hg, cls_many hok hg]
    exact (firsts_sub (cls_sub hok hg k)).length_le
  have hle : ∀ k, (clsTo g k).2 ≤ g.length := fun k => by rw [cls_many hok hg]; exact firsts_le _ _
  refine Classical.byContradiction fun hno => ?_
  have hgrow : ∀ k, k + 1 ≤ (clsTo g k).2 := by
    intro k
    induction k with
    | zero => exact Nat.le_refl _
    | succ k ih =>
      have h1 := hmono k
      have h2 : (clsTo g (k + 1)).2 ≠ (clsTo g k).2 := fun h => hno ⟨k, h⟩
      omega
  have h1 := hgrow g.length
  have h2 := hle g.length
  omega
theorem cls_lq {n : Nat} {g : List (List Int)} (hok : graphOk n g) (hg : 1 ≤ g.length) {k : Nat} (hk : (clsTo g (k + 1)).2 = (clsTo g k).2) (x y : Int) (hx : domG g x) (hy : domG g y) : clsAt g (k + 1) x = clsAt g (k + 1) y ↔ Lq n (stepS g) (stepS g) x y := by
  have H := cls_refines hok hg
  rw [cls_many hok hg, cls_many hok hg] at hk
  have hst := firsts_eq (cls_sub hok hg k) hk.symm
  have hst' : ∀ x y, domG g x → domG g y → clsAt g k x = clsAt g k y → clsAt g (k + 1) x = clsAt g (k + 1) y := fun x y hx hy h => by
    have h2 := hst x.toNat y.toNat (by have := hx.1; have := hx.2; omega) (by have := hy.1; have := hy.2; omega)
    simp only [Int.toNat_of_nonneg hx.1, Int.toNat_of_nonneg hy.1] at h2
    exact h2 h
  constructor
  · intro h
    refine stable_lq (k := k) (graph_dom hok) (fun x y hx hy h => ?_) x y hx hy ?_
    · exact (H.ek (k + 1) x y hx hy).1 (hst' x y hx hy ((H.ek k x y hx hy).2 h))
    · exact (H.ek k x y hx hy).1 ((H.succ k x y hx hy).1 h).1
  · intro h
    exact (H.ek (k + 1) x y hx hy).2 (h.ek _)

/-- The least table of what can be read from st. -/
def IsLeast (n : Nat) (l : List (List Int)) (st : Int) (rows : List (List Int)) : Prop :=
  ∃ (step : Int → Nat → Int × Bool) (start : Int) (D : Int → Prop) (N : Nat), rows = (bfsTo n step start N).1 ∧ (bfsTo n step start N).2.length ≤ N ∧ (∀ x e, D x → e < n → (step x e).2 = true → D (step x e).1) ∧ D start ∧
    (∀ x y, D x → D y → Lq n step step x y → x = y) ∧ Lq n step (stepS l) start st
theorem bfs_more {α : Type} [DecidableEq α] {n N M : Nat} {step : α → Nat → α × Bool} {start : α} (h : (bfsTo n step start N).2.length ≤ N) (hM : N ≤ M) : bfsTo n step start M = bfsTo n step start N := by
  have := bfsTo_stays (n := n) (step := step) (start := start) (i := N) (by omega) (M - N)
  rwa [show N + (M - N) = M from by omega] at this
theorem IsLeast.unique {n : Nat} {l l' : List (List Int)} {st st' : Int} {r r' : List (List Int)} (h : IsLeast n l st r) (h' : IsLeast n l' st' r') (hl : Lq n (stepS l) (stepS l') st st') : r = r' := by
  obtain ⟨s1, a, D1, N1, rfl, f1, d1, i1, red1, l1⟩ := h
  obtain ⟨s2, b, D2, N2, rfl, f2, d2, i2, red2, l2⟩ := h'
  rw [← bfs_more f1 (Nat.le_max_left N1 N2), ← bfs_more f2 (Nat.le_max_right N1 N2)]
  exact bfs_lang d1 d2 red1 red2 i1 i2 (l1.trans (hl.trans l2.symm)) _
/-- A finished table reads what its steps read. -/
theorem table_lq {n N : Nat} {step : Int → Nat → Int × Bool} {start : Int} (h : (bfsTo n step start N).2.length ≤ N) {i : Nat} {x : Int} (hx : (bfsTo n step start N).2[i]? = some x) : Lq n (stepS (bfsTo n step start N).1) step (i : Int) x := by
  obtain ⟨hl, _, hrow⟩ := bfs_done h
  refine Lq.of_rel (fun a x => ∃ i : Nat, a = (i : Int) ∧ (bfsTo n step start N).2[i]? = some x) ?_ ⟨i, rfl, hx⟩
  rintro a x e ⟨i, rfl, hi⟩ he
  obtain ⟨h1, h2⟩ := hrow i x hi
  have h3 := h2 e he
  have h4 : (stepS (bfsTo n step start N).1 (i : Int) e) = (((bfsTo n step start N).1.getD i []).getD e 0, decide (((bfsTo n step start N).1.getD i []).getD e 0 ≥ 0)) := by
    simp [stepS, stepAt, rd, Q.rd_L1]
  rw [h4]
  unfold Right at h3
  by_cases ho : (step x e).2 = true
  · rw [if_pos ho] at h3
    refine ⟨by rw [h3.2, ho]; simp, fun _ => ⟨place (step x e).1 (bfsTo n step start N).2, h3.2, ?_⟩⟩
    rw [List.getElem?_eq_getElem (place_mem.1 h3.1)]
    congr 1
    exact List.getElem_idxOf (place_mem.1 h3.1)
  · rw [if_neg ho] at h3
    have ho' : (step x e).2 = false := by simpa using ho
    refine ⟨by rw [h3, ho']; decide, fun h => ?_⟩
    rw [h3] at h
    simp at h
theorem table_ok {n N : Nat} {step : Int → Nat → Int × Bool} {start : Int} (h : (bfsTo n step start N).2.length ≤ N) : graphOk n (bfsTo n step start N).1 ∧ 1 ≤ (bfsTo n step start N).1.length := by
  obtain ⟨hl, ⟨r, hr⟩, hrow⟩ := bfs_done h
  refine ⟨fun row hm => ?_, by rw [hl, hr]; simp⟩
  obtain ⟨i, hi, rfl⟩ := List.getElem_of_mem hm
  have hi2 : i < (bfsTo n step start N).2.length := by omega
  obtain ⟨h1, h2⟩ := hrow i _ (List.getElem?_eq_getElem hi2)
  rw [List.getD_eq_getElem?_getD, List.getElem?_eq_getElem hi] at h1 h2
  simp only [Option.getD_some] at h1 h2
  refine ⟨h1, fun v hv => ?_⟩
  obtain ⟨e, he, rfl⟩ := List.getElem_of_mem hv
  have h3 := h2 e (by omega)
  rw [List.getD_eq_getElem?_getD, List.getElem?_eq_getElem he] at h3
  simp only [Option.getD_some] at h3
  unfold Right at h3
  split at h3
  · have := place_mem.1 h3.1
    omega
  · omega

/-! ### spec.least -/
theorem least_is {n : Nat} {g : List (List Int)} (hok : graphOk n g) (hg : 1 ≤ g.length) {k : Nat} (hk : (clsTo g (k + 1)).2 = (clsTo g k).2) : IsLeast n g 0 (leastOf n g (clsTo g (k + 1)).1) ∧ (leastOf n g (clsTo g (k + 1)).1).length ≤ g.length := by
  have hKL := clsTo_len g (k + 1)
  have hKR := clsTo_range g hg (k + 1)
  have hcl := fun x y hx hy => cls_lq hok hg hk x y hx hy
  unfold clsAt at hcl
  generalize (clsTo g (k + 1)).1 = K at *
  have hat : ∀ x ∈ K, domG g (place x K : Nat) ∧ rd K (place x K : Nat) = x := fun x hx => by
    have h1 := place_lt hx
    refine ⟨⟨by omega, by omega⟩, ?_⟩
    rw [rd_at h1]; exact List.getElem_idxOf h1
  have h0 : rd K ((0 : Nat) : Int) ∈ K := rd_mem (by omega)
  have hdom : ∀ x e, x ∈ K → e < n → (stepL g K x e).2 = true → (stepL g K x e).1 ∈ K := fun x e hx he h => stepL_dom hok hKL x e hx he h
  have hfin := bfs_size' (n := n) (D := fun x => x ∈ K) hKR hdom h0 g.length
  have hlq : ∀ x ∈ K, ∀ i, domG g i → rd K i = x → Lq n (stepL g K) (stepS g) x i := by
    intro x hx i hi hxi
    refine Lq.of_rel (fun x i => x ∈ K ∧ domG g i ∧ rd K i = x) ?_ ⟨hx, hi, hxi⟩
    rintro x i e ⟨hx, hi, hxi⟩ he
    obtain ⟨hp, hpx⟩ := hat x hx
    have hpi := (hcl (place x K : Nat) i hp hi).1 (by rw [hpx, hxi])
    have hsl : stepL g K x e = if (stepS g (place x K : Nat) e).2 then (rd K (stepS g (place x K : Nat) e).1, true) else (0, false) := by
      unfold stepL stepS stepAt
      by_cases hn : rd (Q.rd_L1 g (place x K : Nat)) e < 0
      · rw [if_pos hn, if_neg (by simp; omega)]
      · rw [if_neg hn, if_pos (by simp; omega)]
    have hok2 := hpi.ok he
    rw [hsl]
    cases ho : (stepS g (place x K : Nat) e).2 with
    | false =>
      rw [ho] at hok2
      simp [← hok2]
    | true =>
      have hnx := hpi.next he ho
      rw [ho] at hok2
      have hd1 := graph_dom hok _ e hp he ho
      have hd2 := graph_dom hok _ e hi he hok2.symm
      simp only [if_true]
      exact ⟨hok2, fun _ => ⟨rd_mem' hd1.1 (by have := hd1.2; omega), hd2, ((hcl _ _ hd1 hd2).2 hnx).symm⟩⟩
  refine ⟨⟨stepL g K, rd K ((0 : Nat) : Int), fun x => x ∈ K, g.length, rfl, hfin, hdom, h0, fun x y hx hy h => ?_, ?_⟩, ?_⟩
  · obtain ⟨hp, hpx⟩ := hat x hx
    obtain ⟨hq, hqx⟩ := hat y hy
    have h1 := ((hlq x hx _ hp hpx).symm.trans h).trans (hlq y hy _ hq hqx)
    rw [← hpx, ← hqx]
    exact (hcl _ _ hp hq).2 h1
  · exact hlq _ h0 _ ⟨by omega, by omega⟩ rfl
  · have := (bfs_done hfin).1
    show (bfsTo n (stepL g K) (rd K ((0 : Nat) : Int)) g.length).1.length ≤ _
    omega

/-! ### the graph of a specification -/
theorem reach_fin {ev st : Int} {l : List (List Int)} (hs : specOk ev st l = true) : (bfsTo ev.toNat (stepS l) st l.length).2.length ≤ l.length := by
  have hh := headOk_true (specOk_head hs)
  exact bfs_size (fun x e hx he h => stepS_dom hs x e hx he h) ⟨by omega, by omega⟩ _
theorem reach_ok {ev st : Int} {l : List (List Int)} (hs : specOk ev st l = true) : graphOk ev.toNat (reachB ev st l).1 ∧ 1 ≤ (reachB ev st l).1.length ∧ (reachB ev st l).1.length ≤ l.length := by
  obtain ⟨h1, h2⟩ := table_ok (reach_fin hs)
  refine ⟨h1, h2, ?_⟩
  have := (bfs_done (reach_fin hs)).1
  have h3 := reach_fin hs
  show (bfsTo ev.toNat (stepS l) st l.length).1.length ≤ _
  omega
theorem reach_lq {ev st : Int} {l : List (List Int)} (hs : specOk ev st l = true) : Lq ev.toNat (stepS (reachB ev st l).1) (stepS l) 0 st := by
  obtain ⟨_, ⟨r, hr⟩, _⟩ := bfs_done (reach_fin hs)
  exact table_lq (i := 0) (reach_fin hs) (by rw [hr]; rfl)
theorem IsLeast.of_lq {n : Nat} {l l' : List (List Int)} {st st' : Int} {r : List (List Int)} (h : IsLeast n l st r) (hl : Lq n (stepS l) (stepS l') st st') : IsLeast n l' st' r := by
  obtain ⟨s1, a, D1, N1, e, f1, d1, i1, red1, l1⟩ := h
  exact ⟨s1, a, D1, N1, e, f1, d1, i1, red1, l1.trans hl⟩
end Go.Proofs.Ytmphigeefppfpaa.H
