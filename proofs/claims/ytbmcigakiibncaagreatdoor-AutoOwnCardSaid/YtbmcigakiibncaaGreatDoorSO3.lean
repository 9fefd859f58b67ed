/- What autoOwn_calls, handed_and_shaped, own, laidOut, laid7, mx_of_shaped, tabD_of_laid, arg_auto, arg_tree needs, out of my texts, by a program (slim.py). -/
import Derived.Test.YtbmcigakiibncaaGreatDoorSO2
namespace Go.Proofs.YtbmcigakiibncaaGreatDoor.H
open Go.RowKit Go.Proofs.YtbmcigakiibncaaGreatDoorW.PrintWords Go.Proofs.YtbmcigakiibncaaGreatDoorW.PrintLast Go.Proofs.YtbmcigakiibncaaGreatDoorW.PrintMore
set_option linter.unusedVariables false
set_option linter.unusedSimpArgs false
def kRow (m : Nat) : Kd Nat := Kd.scalar (fun g => .slice (some ⟨g, 0, none⟩) m m) (fun _ => rfl)
theorem R_other {α : Type} {d : Kd α} {e : Nat} {w w1 : World} {base : Nat} {ok : Nat → Prop} {v : Value} {xs : List α} (h : d.R e w base ok v xs) (b : Nat) (hb : v.ownBlock ≠ some b)
    (ht : ∀ q ∈ d.E, ∀ cells, w.heap[b]? ≠ some (.cells cells q (0, 0))) (hm : ∀ k, k ≠ b → k < w.heap.size → w1.heap[k]? = w.heap[k]?) : d.R e w1 base ok v xs := by
  obtain ⟨h0, inner, ho, hr⟩ := h
  refine ⟨h0, inner, own_move ho (fun k hk => hm k (fun hkb => hb (by rw [hk, hkb])) (own_lt ho k hk)), hr.imp_ (fun _ _ hp => ?_)⟩
  refine d.M_mono (fun k hk => hk.1) (d.M_move (fun k hk => ?_) (d.M_bound hp))
  obtain ⟨_, _, hlt, q, hq, cells, hc⟩ := hk
  exact hm k (fun hkb => ht q hq cells (by rw [← hkb]; exact hc)) hlt
theorem R_same {α : Type} {d : Kd α} {e : Nat} {w w1 : World} {base : Nat} {ok : Nat → Prop} {v : Value} {xs : List α} (h : d.R e w base ok v xs) (hm : ∀ k, ok k → k < w.heap.size → w1.heap[k]? = w.heap[k]?) : d.R e w1 base ok v xs := Kd.R_step h hm
structure MM (b0 B : Nat) (W : World) (v : Value) (M : Mv) (m : Nat) (gs : List Nat) (u : Nat → Nat → Value) : Prop where
  len : gs.length = M.length
  row : (kRow m).R 65 W b0 (fun k => B ≤ k) v gs
  rows : ∀ q, q < M.length → B ≤ gs.getD q 0 ∧ W.heap[gs.getD q 0]? = some (.cells ((List.range m).map (u q)).toArray 66 (0, 0)) ∧ (M.getD q []).length = m
  inj : ∀ q q', q < M.length → q' < M.length → q ≠ q' → gs.getD q 0 ≠ gs.getD q' 0
  alts : ∀ q f, q < M.length → f < m → kA1.R 69 W b0 (fun k => B ≤ k) (u q f) ((M.getD q []).getD f [])
  sep : ∀ q f q' f', q < M.length → f < m → q' < M.length → f' < m → (q ≠ q' ∨ f ≠ f') → ∀ k, (u q f).ownBlock = some k → (u q' f').ownBlock ≠ some k
theorem MM.start (b0 B : Nat) (W : World) (m : Nat) : MM b0 B W (.slice none 0 0) [] m [] (fun _ _ => .slice none 0 0) :=
  ⟨rfl, Kd.R_nil _ _ _ _ _, fun _ h => absurd h (Nat.not_lt_zero _), fun _ _ h => absurd h (Nat.not_lt_zero _), fun _ _ h => absurd h (Nat.not_lt_zero _), fun _ _ _ _ h => absurd h (Nat.not_lt_zero _)⟩
theorem MM.move {b0 B : Nat} {W W1 : World} {v : Value} {M : Mv} {m : Nat} {gs : List Nat} {u : Nat → Nat → Value} (h : MM b0 B W v M m gs u) (hm : ∀ k, B ≤ k → k < W.heap.size → W1.heap[k]? = W.heap[k]?) : MM b0 B W1 v M m gs u :=
  ⟨h.len, R_same h.row hm, fun q hq => ⟨(h.rows q hq).1, (hm _ (h.rows q hq).1 (blk_lt (h.rows q hq).2.1)).trans (h.rows q hq).2.1, (h.rows q hq).2.2⟩, h.inj, fun q f hq hf => R_same (h.alts q f hq hf) hm, h.sep⟩
theorem MM.below {b0 B : Nat} {W W1 : World} {v : Value} {M : Mv} {m : Nat} {gs : List Nat} {u : Nat → Nat → Value} (h : MM b0 B W v M m gs u) (hb : Below W.heap.size W W1) : MM b0 B W1 v M m gs u := h.move fun k _ hk => hb.block k hk
theorem MM.far {b0 B : Nat} {W : World} {v : Value} {M : Mv} {m : Nat} {gs : List Nat} {u : Nat → Nat → Value} (h : MM b0 B W v M m gs u) {a j : Nat} (ha : a < B) (x : Value) : MM b0 B (W.setCell ⟨a, j, none⟩ x) v M m gs u :=
  h.move fun k hk _ => Below.heap_setCell W ⟨a, j, none⟩ x k (by show k ≠ a; omega)
theorem ownBlock_typed {α : Type} {d : Kd α} {e : Nat} {w : World} {base : Nat} {ok : Nat → Prop} {v : Value} {xs : List α} (h : d.R e w base ok v xs) {k : Nat} (hk : v.ownBlock = some k) : (∃ cells, w.heap[k]? = some (.cells cells e (0, 0))) ∧ k < w.heap.size := by
  obtain ⟨_, inner, ho, _⟩ := h
  exact ⟨own_typed ho k hk, own_lt ho k hk⟩
theorem types_ne {w : World} {a b : Nat} {ca cb : Array Value} {ta tb : Nat} {x : Nat × Nat} (ha : w.heap[a]? = some (.cells ca ta x)) (hb : w.heap[b]? = some (.cells cb tb x)) (h : ta ≠ tb) : a ≠ b := by
  intro e
  subst e
  rw [ha] at hb
  injection hb with hb
  injection hb with _ h2 _
  exact h h2
theorem getD_app {α : Type} (l : List α) (x d : α) (q : Nat) : (l ++ [x]).getD q d = if q = l.length then x else l.getD q d := by
  by_cases h : q = l.length
  · subst h; simp
  · rw [if_neg h]
    by_cases h2 : q < l.length
    · simp [List.getD_eq_getElem?_getD, List.getElem?_append_left h2]
    · have h3 : l.length + 1 ≤ q := by omega
      simp [List.getD_eq_getElem?_getD, List.getElem?_eq_none (show (l ++ [x]).length ≤ q by simp; omega), List.getElem?_eq_none (show l.length ≤ q by omega)]
theorem MM.push {b0 B : Nat} {W W1 : World} {v v1 : Value} {M : Mv} {m : Nat} {gs : List Nat} {u : Nat → Nat → Value} (h : MM b0 B W v M m gs u) (g : Nat) (hg : W.heap[g]? = some (.cells (Array.replicate m (.slice none 0 0)) 66 (0, 0))) (hgB : B ≤ g) (hnew : ∀ q, q < M.length → gs.getD q 0 ≠ g)
    (hr : (kRow m).R 65 W1 b0 (fun k => B ≤ k) v1 (gs ++ [g])) (hw : W.grownBy W1 v.ownBlock) : MM b0 B W1 v1 (M ++ [List.replicate m []]) m (gs ++ [g]) (fun q f => if q = M.length then .slice none 0 0 else u q f) := by
  have ho : ∀ k, v.ownBlock = some k → ∃ cells, W.heap[k]? = some (.cells cells 65 (0, 0)) := fun k hk => (ownBlock_typed h.row hk).1
  have hkeep : ∀ (k : Nat) (cells : Array Value) (t : Nat), W.heap[k]? = some (Obj.cells cells t (0, 0)) → t ≠ 65 → W1.heap[k]? = some (Obj.cells cells t (0, 0)) := by
    intro k cells t hk ht
    refine blk_grown hk hw (fun e => ?_)
    obtain ⟨c2, h2⟩ := ho k e.symm
    exact types_ne hk h2 ht rfl
  have hlen : (M ++ [List.replicate m ([] : List (List Nd))]).length = M.length + 1 := by simp
  have hd : ∀ q, (gs ++ [g]).getD q 0 = if q = M.length then g else gs.getD q 0 := fun q => by rw [getD_app, h.len]
  have hMd : ∀ q, (M ++ [List.replicate m ([] : List (List Nd))]).getD q [] = if q = M.length then List.replicate m [] else M.getD q [] := fun q => getD_app _ _ _ _
  refine ⟨by simp [h.len], hr, fun q hq => ?_, fun q q' hq hq' hne => ?_, fun q f hq hf => ?_, fun q f q' f' hq hf hq' hf' hne k hk => ?_⟩
  · rw [hd, hMd]
    by_cases e : q = M.length
    · rw [if_pos e, if_pos e]
      refine ⟨hgB, ?_, by simp⟩
      have : ((List.range m).map fun f => if q = M.length then (Value.slice none 0 0) else u q f).toArray = Array.replicate m (.slice none 0 0) := by
        simp only [if_pos e]
        apply Array.ext <;> simp
      rw [this]
      exact hkeep _ _ _ hg (by decide)
    · rw [if_neg e, if_neg e]
      have hq2 : q < M.length := by omega
      have : ((List.range m).map fun f => if q = M.length then (Value.slice none 0 0) else u q f).toArray = ((List.range m).map (u q)).toArray := by simp only [if_neg e]
      rw [this]
      exact ⟨(h.rows q hq2).1, hkeep _ _ _ (h.rows q hq2).2.1 (by decide), (h.rows q hq2).2.2⟩
  · rw [hd, hd]
    by_cases e : q = M.length <;> by_cases e' : q' = M.length
    · omega
    · rw [if_pos e, if_neg e']; exact fun x => hnew q' (by omega) x.symm
    · rw [if_neg e, if_pos e']; exact hnew q (by omega)
    · rw [if_neg e, if_neg e']; exact h.inj q q' (by omega) (by omega) hne
  · rw [hMd]
    by_cases e : q = M.length
    · simp only [if_pos e]
      rw [show (List.replicate m ([] : List (List Nd))).getD f [] = [] by simp [List.getD_eq_getElem?_getD, hf]]
      exact Kd.R_nil _ _ _ _ _
    · simp only [if_neg e]
      have h1 := h.alts q f (by omega) hf
      cases hob : v.ownBlock with
      | none => exact R_same h1 (fun k hk hlt => hw.block k hlt (by rw [hob]; exact fun x => by cases x))
      | some b =>
        obtain ⟨cb, hcb⟩ := ho b hob
        refine R_other h1 b (fun x => ?_) (fun t ht cells hc => ?_) (fun k hk hlt => hw.block k hlt (by rw [hob]; exact fun x => hk (Option.some.inj x)))
        · obtain ⟨⟨c2, h2⟩, _⟩ := ownBlock_typed h1 x
          exact types_ne h2 hcb (by decide) rfl
        · have : t = 83 := by simpa [kA1, Kd.slice, Q.k83, Kd.iso, Kd.pair, Kd.int, Kd.scalar] using ht
          exact types_ne hc hcb (by rw [this]; decide) rfl
  · by_cases e : q = M.length
    · rw [if_pos e] at hk; cases hk
    · rw [if_neg e] at hk
      by_cases e' : q' = M.length
      · rw [if_pos e']; exact fun x => by cases x
      · rw [if_neg e']
        exact h.sep q f q' f' (by omega) hf (by omega) hf' hne k hk
theorem addAlt_len (M : Mv) (q f : Nat) (z : List Nd) : (addAlt M q f z).length = M.length := by unfold addAlt; simp
theorem addAlt_row {M : Mv} {q f : Nat} {z : List Nd} (hq : q < M.length) (q' : Nat) : (addAlt M q f z).getD q' [] = if q' = q then (M.getD q []).set f ((M.getD q []).getD f [] ++ [z]) else M.getD q' [] := by
  unfold addAlt
  by_cases e : q' = q
  · rw [if_pos e, e]; simp [List.getD_eq_getElem?_getD, hq]
  · rw [if_neg e]
    simp [List.getD_eq_getElem?_getD, List.getElem?_set, if_neg (fun h : q = q' => e h.symm)]
theorem setD {α : Type} {l : List α} {f : Nat} (hf : f < l.length) (x d : α) (f' : Nat) : (l.set f x).getD f' d = if f' = f then x else l.getD f' d := by
  by_cases e : f' = f
  · rw [if_pos e, e]; simp [List.getD_eq_getElem?_getD, hf]
  · rw [if_neg e]
    simp [List.getD_eq_getElem?_getD, List.getElem?_set, if_neg (fun h : f = f' => e h.symm)]
theorem MM.add {b0 B : Nat} {W W1 : World} {v : Value} {M : Mv} {m : Nat} {gs : List Nat} {u : Nat → Nat → Value} (h : MM b0 B W v M m gs u) {q f : Nat} (hq : q < M.length) (hf : f < m) (z : List Nd) (v1 : Value)
    (hr : kA1.R 69 W1 b0 (fun k => B ≤ k) v1 ((M.getD q []).getD f [] ++ [z])) (hw : W.grownBy W1 (u q f).ownBlock) (hat : v1.ownBlock = (u q f).ownBlock ∨ ∃ b, v1.ownBlock = some b ∧ W.heap.size ≤ b) :
    MM b0 B (W1.setCell ⟨gs.getD q 0, f, none⟩ v1) v (addAlt M q f z) m gs (fun a b => if a = q ∧ b = f then v1 else u a b) := by
  have hrq := h.rows q hq
  have hown : ∀ k, (u q f).ownBlock = some k → ∃ cells, W.heap[k]? = some (Obj.cells cells 69 (0, 0)) := fun k hk => (ownBlock_typed (h.alts q f hq hf) hk).1
  have hkeep : ∀ (k : Nat) (cells : Array Value) (t : Nat), W.heap[k]? = some (Obj.cells cells t (0, 0)) → t ≠ 69 → W1.heap[k]? = some (Obj.cells cells t (0, 0)) := by
    intro k cells t hk ht
    refine blk_grown hk hw (fun e => ?_)
    obtain ⟨c2, h2⟩ := hown k e.symm
    exact types_ne hk h2 ht rfl
  have hg1 := hkeep _ _ _ hrq.2.1 (by decide)
  have hset : ∀ k, k ≠ gs.getD q 0 → (W1.setCell ⟨gs.getD q 0, f, none⟩ v1).heap[k]? = W1.heap[k]? := fun k hk => Below.heap_setCell W1 _ _ k hk
  have h83 : ∀ t ∈ kA1.E, t = 83 := fun t ht => by simpa [kA1, Kd.slice, Q.k83, Kd.iso, Kd.pair, Kd.int, Kd.scalar] using ht
  have hsize : W.heap.size ≤ W1.heap.size := hw.size
  refine ⟨by rw [addAlt_len]; exact h.len, ?_, fun a ha => ?_, fun a a' ha ha' hne => h.inj a a' (by rw [addAlt_len] at ha; exact ha) (by rw [addAlt_len] at ha'; exact ha') hne, fun a b ha hb => ?_, fun a b a' b' ha hb ha' hb' hne k hk => ?_⟩
  · have h1 : (kRow m).R 65 W1 b0 (fun k => B ≤ k) v gs := by
      cases hob : (u q f).ownBlock with
      | none => exact R_same h.row (fun k hk hlt => hw.block k hlt (by rw [hob]; exact fun x => by cases x))
      | some b =>
        obtain ⟨cb, hcb⟩ := hown b hob
        refine R_other h.row b (fun x => ?_) (fun t ht => by simp [kRow, Kd.scalar] at ht) (fun k hk hlt => hw.block k hlt (by rw [hob]; exact fun x => hk (Option.some.inj x)))
        obtain ⟨⟨c2, h2⟩, _⟩ := ownBlock_typed h.row x
        exact types_ne h2 hcb (by decide) rfl
    refine R_other h1 (gs.getD q 0) (fun x => ?_) (fun t ht => by simp [kRow, Kd.scalar] at ht) (fun k hk _ => hset k hk)
    obtain ⟨⟨c2, h2⟩, _⟩ := ownBlock_typed h1 x
    exact types_ne h2 hg1 (by decide) rfl
  · rw [addAlt_len] at ha
    have hra := h.rows a ha
    rw [addAlt_row hq]
    by_cases e : a = q
    · subst e
      rw [if_pos rfl]
      refine ⟨hra.1, ?_, by rw [List.length_set]; exact hra.2.2⟩
      have h1 := blk_set hg1 f v1
      rw [h1]
      congr 1
      have : (((List.range m).map (u a)).toArray).setIfInBounds f v1 = ((List.range m).map fun b => if a = a ∧ b = f then v1 else u a b).toArray := by
        apply Array.ext
        · simp
        · intro i hi1 hi2
          by_cases hif : f = i
          · subst hif; simp
          · simp [List.getElem_set]
            rw [if_neg hif, if_neg (fun x => hif x.symm)]
      rw [this]
    · rw [if_neg e]
      refine ⟨hra.1, ?_, hra.2.2⟩
      rw [hset _ (h.inj a q ha hq e)]
      have : ((List.range m).map fun b => if a = q ∧ b = f then v1 else u a b).toArray = ((List.range m).map (u a)).toArray := by simp [e]
      rw [this]
      exact hkeep _ _ _ hra.2.1 (by decide)
  · rw [addAlt_len] at ha
    rw [addAlt_row hq]
    have hfar : ∀ {x : Value} {xs : List (List Nd)}, kA1.R 69 W1 b0 (fun k => B ≤ k) x xs → kA1.R 69 (W1.setCell ⟨gs.getD q 0, f, none⟩ v1) b0 (fun k => B ≤ k) x xs := by
      intro x xs hx
      refine R_other hx (gs.getD q 0) (fun y => ?_) (fun t ht cells hc => ?_) (fun k hk _ => hset k hk)
      · obtain ⟨⟨c2, h2⟩, _⟩ := ownBlock_typed hx y
        exact types_ne h2 hg1 (by decide) rfl
      · exact types_ne hc hg1 (by rw [h83 t ht]; decide) rfl
    by_cases e : a = q ∧ b = f
    · obtain ⟨rfl, rfl⟩ := e
      rw [if_pos rfl, if_pos ⟨rfl, rfl⟩, setD (by rw [hrq.2.2]; exact hf), if_pos rfl]
      exact hfar hr
    · rw [if_neg e]
      have e2 : (if a = q then (M.getD q []).set f ((M.getD q []).getD f [] ++ [z]) else M.getD a []).getD b [] = (M.getD a []).getD b [] := by
        by_cases ea : a = q
        · subst ea
          rw [if_pos rfl, setD (by rw [hrq.2.2]; exact hf), if_neg (fun x => e ⟨rfl, x⟩)]
        · rw [if_neg ea]
      rw [e2]
      have h1 := h.alts a b ha hb
      refine hfar ?_
      cases hob : (u q f).ownBlock with
      | none => exact R_same h1 (fun k hk hlt => hw.block k hlt (by rw [hob]; exact fun x => by cases x))
      | some b0 =>
        obtain ⟨cb, hcb⟩ := hown b0 hob
        refine R_other h1 b0 (fun x => ?_) (fun t ht cells hc => ?_) (fun k hk hlt => hw.block k hlt (by rw [hob]; exact fun x => hk (Option.some.inj x)))
        · exact h.sep q f a b hq hf ha hb (by by_cases ea : q = a; exact .inr (fun x => e ⟨ea.symm, x.symm⟩); exact .inl ea) b0 hob x
        · exact types_ne hc hcb (by rw [h83 t ht]; decide) rfl
  · rw [addAlt_len] at ha ha'
    have hold : ∀ a b, a < M.length → b < m → ∀ k, (u a b).ownBlock = some k → k < W.heap.size := fun a b ha hb k hk => (ownBlock_typed (h.alts a b ha hb) hk).2
    by_cases e : a = q ∧ b = f
    · rw [if_pos e] at hk
      have e' : ¬ (a' = q ∧ b' = f) := fun x => by omega
      rw [if_neg e']
      rcases hat with hat | ⟨b0, hb0, hle⟩
      · rw [hat] at hk
        exact h.sep q f a' b' hq hf ha' hb' (by omega) k hk
      · rw [hb0] at hk
        injection hk with hk
        intro hk'
        have := hold a' b' ha' hb' k hk'
        omega
    · rw [if_neg e] at hk
      by_cases e' : a' = q ∧ b' = f
      · rw [if_pos e']
        intro hk'
        rcases hat with hat | ⟨b0, hb0, hle⟩
        · rw [hat] at hk'
          exact h.sep a b q f ha hb hq hf (by omega) k hk hk'
        · rw [hb0] at hk'
          injection hk' with hk'
          have := hold a b ha hb k hk
          omega
      · rw [if_neg e']
        exact h.sep a b a' b' ha hb ha' hb' hne k hk
theorem MM.reads {b0 B : Nat} {W : World} {v : Value} {M : Mv} {m : Nat} {gs : List Nat} {u : Nat → Nat → Value} (h : MM b0 B W v M m gs u) (hm : m ≤ 9223372036854775807) : ∃ A c, v = .slice A M.length c ∧ M.length ≤ c ∧ Kd.C kA3 W A M.length M := by
  obtain ⟨A, c, rfl⟩ := Kd.R_slice h.row
  have hr := Kd.R_reads' h.row
  refine ⟨A, c, by rw [h.len], by rw [← h.len]; exact hr.2.1, ?_⟩
  have hC := hr.2.2
  rw [h.len] at hC
  obtain ⟨h1, h2, h3⟩ := hC
  refine ⟨rfl, h2, fun h0 => ?_⟩
  obtain ⟨ad, e, hcell⟩ := h3 h0
  refine ⟨ad, e, fun j p hj => ?_⟩
  obtain ⟨hjl, hjp⟩ := List.getElem?_eq_some_iff.1 hj
  obtain ⟨cs, hcs, hK, hx⟩ := hcell j (gs.getD j 0) (by have : j < gs.length := by rw [h.len]; exact hjl
                                                        simp [List.getD_eq_getElem?_getD, this])
  have hrow := h.rows j hjl
  have hp : M.getD j [] = p := by rw [← hjp]; simp [List.getD_eq_getElem?_getD, hjl]
  rw [hp] at hrow
  refine ⟨cs, hcs, ⟨some ⟨gs.getD j 0, 0, none⟩, m, ?_, Nat.le_of_eq hrow.2.2, ⟨rfl, by rw [hrow.2.2]; exact hm, fun _ => ⟨_, rfl, fun i al hi => ?_⟩⟩⟩, hx⟩
  · rw [hrow.2.2]; exact hK
  · obtain ⟨hil, hip⟩ := List.getElem?_eq_some_iff.1 hi
    have him : i < m := by rw [← hrow.2.2]; exact hil
    have hR := h.alts j i hjl him
    rw [hp, show p.getD i [] = al by rw [← hip]; simp [List.getD_eq_getElem?_getD, hil]] at hR
    obtain ⟨A2, c2, e2⟩ := Kd.R_slice hR
    rw [e2] at hR
    have hr2 := Kd.R_reads' hR
    refine ⟨[u j i], rfl, ⟨A2, c2, by rw [e2], hr2.2.1, hr2.2.2⟩, fun x y hy => ?_⟩
    have hx0 : x = 0 := by
      have := (List.getElem?_eq_some_iff.1 hy).1
      simpa using this
    subst hx0
    obtain rfl : u j i = y := by simpa using hy
    have hc := blk_cell hrow.2.1 i
    have e3 : (Addr.add ⟨gs.getD j 0, 0, none⟩ (i * kA2.sz + 0)) = ⟨gs.getD j 0, i, none⟩ := by
      rw [show kA2.sz = 1 from rfl, Nat.mul_one, Nat.add_zero]
      simp [Addr.add]
      exact fun h => h.symm
    rw [e3, hc]
    simp [him]
end Go.Proofs.YtbmcigakiibncaaGreatDoor.H
namespace Go.Proofs.YtbmcigakiibncaaGreatDoor.H
open Go.RowKit Go.Proofs.YtbmcigakiibncaaGreatDoorW.PrintWords Go.Proofs.YtbmcigakiibncaaGreatDoorW.PrintLast Go.Proofs.YtbmcigakiibncaaGreatDoorW.PrintMore
set_option linter.unusedVariables false
set_option linter.unusedSimpArgs false
def andN (l wo : Nat) : Nat := l &&& (18446744073709551615 - wo)
def hitBits (rec : Nat → Nat → List Nat) (x : Nat) : Nat → List Nat → List Nat
  | _, [] => []
  | wo, i :: r => rec (x ||| 2 ^ i) wo ++ hitBits rec x (wo ||| 2 ^ i) r
def hitAll (alts : List Nat) : Nat → Nat → Nat → List Nat
  | 0, _, _ => []
  | k + 1, x, wo => if neededB alts x then (match alts.find? (fun l => l &&& x == 0) with
    | none => [x]
    | some l => hitBits (hitAll alts k) x wo (bitsN (andN l wo))) else []
theorem idx_from (x : Nat) (hx : x < 16777216) : ∀ (alts : List Nat) (i : Nat), (∀ l ∈ alts, l < 16777216) →
    match alts.find? (fun l => l &&& x == 0) with
    | none => Lib.idxByFrom (fun (_ : Int) y => bits .and .i64 y (x : Int) == 0) default (ofN alts) i = -1
    | some l => ∃ j, j < alts.length ∧ alts.getD j 0 = l ∧ Lib.idxByFrom (fun (_ : Int) y => bits .and .i64 y (x : Int) == 0) default (ofN alts) i = ((i + j : Nat) : Int)
  | [], i, _ => rfl
  | a :: r, i, h => by
    have e : (bits .and .i64 (a : Int) (x : Int) == 0) = (a &&& x == 0) := by
      rw [i64_and (by have := h a (List.mem_cons_self ..); omega) (by omega), Bool.eq_iff_iff, beq_iff_eq, beq_iff_eq]
      omega
    have ih := idx_from x hx r (i + 1) (fun l hl => h l (List.mem_cons_of_mem _ hl))
    rw [List.find?_cons]
    unfold ofN at ih ⊢
    rw [List.map_cons, Lib.idxByFrom, e]
    cases ha : (a &&& x == 0) with
    | true => exact ⟨0, by simp, rfl, by simp⟩
    | false =>
      simp only
      rw [if_neg (by decide)]
      cases hf : r.find? (fun l => l &&& x == 0) with
      | none => rw [hf] at ih; exact ih
      | some l =>
        rw [hf] at ih
        obtain ⟨j, hj, hl, he⟩ := ih
        exact ⟨j + 1, by rw [List.length_cons]; omega, by simpa using hl, by rw [he]; congr 1; omega⟩
theorem bitsN_mem {m i : Nat} : i ∈ bitsN m ↔ i < 24 ∧ m.testBit i = true := by unfold bitsN; rw [List.mem_filter, List.mem_range]
theorem or_lt {x i : Nat} (hx : x < 16777216) (hi : i < 24) : x ||| 2 ^ i < 16777216 := Nat.or_lt_two_pow (n := 24) hx (Nat.pow_lt_pow_right (by decide) hi)
theorem or_len {x i : Nat} (hx : x.testBit i = false) (hi : i < 24) : (bitsN (x ||| 2 ^ i)).length = (bitsN x).length + 1 := by
  have h : ∀ n, i < n → ((List.range n).filter fun j => (x ||| 2 ^ i).testBit j).length = ((List.range n).filter fun j => x.testBit j).length + 1 := by
    intro n hn
    rw [range_cut hn, List.filter_append, List.filter_append, List.filter_cons, List.filter_cons, hx]
    rw [show (x ||| 2 ^ i).testBit i = true by rw [Nat.testBit_or, Nat.testBit_two_pow]; simp]
    have e1 : (List.range i).filter (fun j => (x ||| 2 ^ i).testBit j) = (List.range i).filter (fun j => x.testBit j) := List.filter_congr fun j hj => by
      have := List.mem_range.1 hj
      rw [Nat.testBit_or, Nat.testBit_two_pow, decide_eq_false (by omega), Bool.or_false]
    have e2 : (List.range' (i + 1) (n - i - 1)).filter (fun j => (x ||| 2 ^ i).testBit j) = (List.range' (i + 1) (n - i - 1)).filter (fun j => x.testBit j) := List.filter_congr fun j hj => by
      have := (List.mem_range'_1.1 hj).1
      rw [Nat.testBit_or, Nat.testBit_two_pow, decide_eq_false (by omega), Bool.or_false]
    rw [e1, e2]
    simp
    omega
  exact h 24 hi
theorem andN_le (l wo : Nat) : andN l wo ≤ l := Nat.and_le_left
theorem andN_bit {l wo i : Nat} (h : (andN l wo).testBit i = true) : l.testBit i = true := by
  unfold andN at h
  rw [Nat.testBit_and, Bool.and_eq_true] at h
  exact h.1
theorem and_zero_bit {l x i : Nat} (h : (l &&& x == 0) = true) (hl : l.testBit i = true) : x.testBit i = false := by
  have h1 : (l &&& x).testBit i = false := by rw [beq_iff_eq.1 h]; simp
  rw [Nat.testBit_and, hl, Bool.true_and] at h1
  exact h1
structure HS (w0 : World) (t0 hb : Nat) (A : Option Addr) (c : Nat) (alts : List Nat) (v : Value) (o : List Nat) (W : World) : Prop where
  below : Below w0.heap.size w0 W
  h0 : w0.heap.size ≤ hb
  ht : hb < t0
  hW : t0 ≤ W.heap.size
  blk : W.heap[hb]? = some (.cells #[.slice A alts.length c, v] 124 (0, 0))
  ra : Kd.R (Kd.int .i64) 3 W w0.heap.size (fun k => k < t0 ∧ k ≠ hb) (.slice A alts.length c) (ofN alts)
  ro : Kd.R (Kd.int .i64) 3 W w0.heap.size (fun k => t0 ≤ k) v (ofN o)
structure Fr (t0 hb : Nat) (v : Value) (W : World) (v' : Value) (W' : World) : Prop where
  size : W.heap.size ≤ W'.heap.size
  keep : ∀ k, k < W.heap.size → k ≠ hb → (k < t0 ∨ some k ≠ v.ownBlock) → W'.heap[k]? = W.heap[k]?
  own : v'.ownBlock = v.ownBlock ∨ ∃ b, v'.ownBlock = some b ∧ W.heap.size ≤ b
theorem Fr.refl (t0 hb : Nat) (v : Value) (W : World) : Fr t0 hb v W v W := ⟨Nat.le_refl _, fun _ _ _ _ => rfl, .inl rfl⟩
theorem Fr.trans {t0 hb : Nat} {v v1 v2 : Value} {W W1 W2 : World} (h : Fr t0 hb v W v1 W1) (h2 : Fr t0 hb v1 W1 v2 W2) : Fr t0 hb v W v2 W2 := by
  refine ⟨Nat.le_trans h.size h2.size, fun k hk hne ho => ?_, ?_⟩
  · rw [h2.keep k (Nat.lt_of_lt_of_le hk h.size) hne ?_, h.keep k hk hne ho]
    rcases ho with ho | ho
    · exact .inl ho
    · rcases h.own with e | ⟨b, e, hb⟩
      · rw [e]; exact .inr ho
      · rw [e]; refine .inr fun x => ?_
        injection x with x
        omega
  · rcases h2.own with e | ⟨b, e, hb⟩
    · rw [e]; exact h.own
    · exact .inr ⟨b, e, Nat.le_trans h.size hb⟩
theorem Fr.below {t0 hb : Nat} {v : Value} {W W1 : World} (h : Below W.heap.size W W1) : Fr t0 hb v W v W1 := ⟨h.size, fun k hk _ _ => h.block k hk, .inl rfl⟩
theorem HS.move {w0 : World} {t0 hb : Nat} {A : Option Addr} {c : Nat} {alts : List Nat} {v : Value} {o : List Nat} {W W1 : World} (h : HS w0 t0 hb A c alts v o W) (hB : Below W.heap.size W W1) : HS w0 t0 hb A c alts v o W1 :=
  ⟨below_then h.below h.below.size hB, h.h0, h.ht, Nat.le_trans h.hW hB.size, blk_below h.blk hB, Kd.R_below h.ra hB, Kd.R_below h.ro hB⟩
theorem HS.reads {w0 : World} {t0 hb : Nat} {A : Option Addr} {c : Nat} {alts : List Nat} {v : Value} {o : List Nat} {W : World} (h : HS w0 t0 hb A c alts v o W) :
    W.cell? ⟨hb, 0, none⟩ = some (.slice A alts.length c) ∧ W.cell? ⟨hb, 1, none⟩ = some v ∧ Kd.C (Kd.int .i64) W A alts.length (ofN alts) ∧ AtRow A alts.length ∧ v.ownBlock ≠ some hb := by
  refine ⟨(blk_cell h.blk 0).trans rfl, (blk_cell h.blk 1).trans rfl, ?_, row_at h.ra, fun e => ?_⟩
  · have := Kd.R_reads' h.ra
    rw [ofN_len] at this
    exact this.2.2
  · obtain ⟨⟨cc, hcc⟩, _⟩ := ownBlock_typed h.ro e
    exact types_ne h.blk hcc (by decide) rfl
theorem HS.put {w0 : World} {t0 hb : Nat} {A : Option Addr} {c : Nat} {alts : List Nat} {v v1 : Value} {o : List Nat} {W W1 : World} (h : HS w0 t0 hb A c alts v o W) (x : Nat)
    (hr : Kd.R (Kd.int .i64) 3 W1 w0.heap.size (fun k => t0 ≤ k) v1 (ofN o ++ [(x : Int)])) (hb1 : Below w0.heap.size w0 W1) (hg : W.grownBy W1 v.ownBlock) (hat : v1.ownBlock = v.ownBlock ∨ ∃ b, v1.ownBlock = some b ∧ W.heap.size ≤ b) :
    HS w0 t0 hb A c alts v1 (o ++ [x]) (W1.setCell ⟨hb, 1, none⟩ v1) ∧ Fr t0 hb v W v1 (W1.setCell ⟨hb, 1, none⟩ v1) := by
  have hset : ∀ k, k ≠ hb → (W1.setCell ⟨hb, 1, none⟩ v1).heap[k]? = W1.heap[k]? := fun k hk => Below.heap_setCell W1 _ _ k hk
  have hs : (W1.setCell ⟨hb, 1, none⟩ v1).heap.size = W1.heap.size := by simp [World.setCell]
  have hgs := hg.size
  have hbk := blk_grown h.blk hg (fun e => (h.reads).2.2.2.2 e.symm)
  have hv : ∀ k, v.ownBlock = some k → t0 ≤ k := fun k hk => h.ro.1 k hk
  refine ⟨⟨hb1.setCell (p := ⟨hb, 1, none⟩) h.h0 _, h.h0, h.ht, by rw [hs]; have := h.hW; omega, blk_set hbk 1 v1, ?_, ?_⟩, by rw [hs]; exact hgs, fun k hk hne ho => ?_, hat⟩
  · refine R_same h.ra (fun k hk hlt => ?_)
    rw [hset k hk.2]
    exact hg.block k hlt (fun e => by have := hv k e.symm; omega)
  · rw [show ofN (o ++ [x]) = ofN o ++ [(x : Int)] by unfold ofN; simp]
    exact R_same hr (fun k hk hlt => hset k (by have := h.ht; omega))
  · rw [hset k hne]
    refine hg.block k hk (fun e => ?_)
    rcases ho with ho | ho
    · have := hv k e.symm; omega
    · exact ho e
end Go.Proofs.YtbmcigakiibncaaGreatDoor.H
namespace Go.Proofs.YtbmcigakiibncaaGreatDoor.H
open Go.RowKit Go.Proofs.YtbmcigakiibncaaGreatDoorW.PrintWords Go.Proofs.YtbmcigakiibncaaGreatDoorW.PrintLast Go.Proofs.YtbmcigakiibncaaGreatDoorW.PrintMore
set_option linter.unusedVariables false
set_option linter.unusedSimpArgs false
def tabT96 : Bool × List (List Nat × List Nat) := (true, [([], []), ([], []), ([1], [1]), ([2], [2]), ([3], [3]), ([], []), ([5], [5]), ([4, 6], [4, 6]), ([0, 0, 1, 2, 3, 4, 5, 6, 7], [0]), ([8, 0, 1, 2, 3, 4, 5, 6, 7], [8]), ([9, 7, 7, 0, 1, 2, 3, 4, 5, 6, 7], [7, 9])])
theorem tab96 : rtab .any (opsOf Tryz.f96 5) = tabT96 := by kernel_rfl
theorem bits96 : waitsOk tabT96.2 [0, 0, 2, 6, 14, 0, 32, 126, 255, 511, 1023] = true := by kernel_rfl
def HitE (w0 : World) (t0 hb : Nat) (A : Option Addr) (c : Nat) (alts : List Nat) (v : Value) (tot : List Nat) (w : World) (E : Ending) (w' : World) : Prop :=
  ∃ v', E = .returned (.bool (decide (tot.length ≤ 12))) ∧ HS w0 t0 hb A c alts v' (tot.take 13) w' ∧ Fr t0 hb v w v' w'
theorem getD_memN2 {alts : List Nat} {j : Nat} (h : j < alts.length) : alts.getD j 0 ∈ alts := by
  rw [List.getD_eq_getElem?_getD, List.getElem?_eq_getElem h]; exact List.getElem_mem h
theorem ret_b {a b : Bool} (h : a = b) : Ending.returned (.bool a) = .returned (.bool b) := by rw [h]
set_option maxHeartbeats 16000000 in
set_option maxRecDepth 100000 in
theorem hit_calls (w0 : World) (t0 hb : Nat) (A : Option Addr) (c : Nat) (alts : List Nat) (hal : ∀ l ∈ alts, l < 16777216) :
    ∀ (k : Nat) (x wo : Nat) (v : Value) (o : List Nat) (w : World), x < 16777216 → wo < 16777216 → 25 ≤ (bitsN x).length + k → o.length ≤ 12 → HS w0 t0 hb A c alts v o w →
      Calls Tryz.prog 96 #[.pointer (some ⟨hb, 0, none⟩), .int .i64 (x : Int), .int .i64 (wo : Int)] w (HitE w0 t0 hb A c alts v (o ++ hitAll alts k x wo) w)
  | 0, x, wo, v, o, w, hx, hwo, hk, ho, hs => absurd (bitsN_len x) (by omega)
  | k + 1, x, wo, v, o, w, hx, hwo, hk, ho, hs => by
    have IH := Aside0.mk (hit_calls w0 t0 hb A c alts hal k)
    have HAL := Aside0.mk hal
    have HX := Aside0.mk hx
    have HWO := Aside0.mk hwo
    have HKL := Aside0.mk hk
    have HOL := Aside0.mk ho
    have hb0 := below_alloc (Below.refl w.heap.size w) (.cells #[.int .i64 (x : Int)] 3)
    have HS1 := Aside0.mk (hs.move hb0)
    have HF1 := Aside0.mk (Fr.below (t0 := t0) (hb := hb) (v := v) hb0)
    have HBX1 := Aside0.mk (blk_new w (.cells #[.int .i64 (x : Int)] 3))
    have HVX := Aside0.mk (show ∀ k, v.ownBlock = some k → k ≠ w.heap.size from fun k hk => by have := (ownBlock_typed hs.ro hk).2; omega)
    have HXB := Aside0.mk (show hb < w.heap.size from by have := hs.ht; have := hs.hW; omega)
    clear hal hk ho hs hb0 hx hwo
    go_enter Tryz.func96, Tryz.ntmps96
    go_upto_region 1 with (fail)
    generalize w.alloc (.cells #[.int .i64 (x : Int)] 3) = W1 at *
    have kx : W1.cell? ⟨w.heap.size, 0, none⟩ = some (.int .i64 (x : Int)) := (blk_cell HBX1.out 0).trans rfl
    have HN := Aside0.mk (needed_calls hb A c alts x W1 HAL.out HX.out (HS1.out).reads.1 (HS1.out).reads.2.2.1 (HS1.out).reads.2.2.2.1)
    go_wp2_with fail
    refine (HN.out).mono ?_
    rintro E W2 ⟨rfl, hb2⟩
    have HS2 := Aside0.mk ((HS1.out).move hb2)
    have HF2 := Aside0.mk ((HF1.out).trans (Fr.below hb2))
    have HBX2 := Aside0.mk (blk_below HBX1.out hb2)
    clear hb2 kx HS1 HF1 HBX1 HN
    cases hn : neededB alts x with
    | false =>
      have HT := Aside0.mk (show o ++ hitAll alts (k + 1) x wo = o by rw [hitAll, hn]; simp)
      clear hn
      go_wp2
      go_ret
      rw [HT.out]
      exact ⟨v, ret_b (by rw [decide_eq_true HOL.out]), by rw [List.take_of_length_le (Nat.le_succ_of_le HOL.out)]; exact HS2.out, HF2.out⟩
    | true =>
    have HIT := Aside0.mk (show hitAll alts (k + 1) x wo = (match alts.find? (fun l => l &&& x == 0) with | none => [x] | some l => hitBits (hitAll alts k) x wo (bitsN (andN l wo))) by rw [hitAll, hn]; rfl)
    have HID := Aside0.mk (idx_from x HX.out alts 0 HAL.out)
    have hmf := run_mkfun
    obtain ⟨kh0, kh1, hrd, hat, hne⟩ := (HS2.out).reads
    have kx : W2.cell? ⟨w.heap.size, 0, none⟩ = some (.int .i64 (x : Int)) := (blk_cell HBX2.out 0).trans rfl
    have HIX := Aside0.mk (idxI_calls A c (ofN alts) 117 #[.pointer (some ⟨w.heap.size, 0, none⟩)] _ eg117 W2 (pred117 w.heap.size (x : Int) W2 kx) (by rw [ofN_len]; exact hrd) (by rw [ofN_len]; exact hat))
    rw [ofN_len] at HIX
    have HIB := Aside0.mk (show Lib.idxBy (fun (_ : Int) y => bits .and .i64 y (x : Int) == 0) (ofN alts) default = Lib.idxByFrom (fun (_ : Int) y => bits .and .i64 y (x : Int) == 0) default (ofN alts) 0 from rfl)
    rw [HIB.out] at HIX
    generalize Lib.idxByFrom (fun (_ : Int) y => bits .and .i64 y (x : Int) == 0) default (ofN alts) 0 = ix at *
    clear hrd hat hne hn HIB
    go_wp2_with fail
    refine (HIX.out).mono ?_
    rintro E W3 ⟨rfl, nq, rfl⟩
    have hbn := pw_below_drewN (Below.refl W2.heap.size W2) nq
    have HS3 := Aside0.mk ((HS2.out).move hbn)
    have HF3 := Aside0.mk ((HF2.out).trans (Fr.below hbn))
    have HBX3 := Aside0.mk (blk_below HBX2.out hbn)
    clear hbn kh0 kh1 kx HS2 HF2 HBX2 HIX
    generalize W2.drewN nq = W3 at *
    obtain ⟨kh0, kh1, hrd, hat, hne⟩ := (HS3.out).reads
    have kx : W3.cell? ⟨w.heap.size, 0, none⟩ = some (.int .i64 (x : Int)) := (blk_cell HBX3.out 0).trans rfl
    have HRD := Aside0.mk hrd
    have HATR := Aside0.mk hat
    clear hrd hat hne
    cases hf : alts.find? (fun l => l &&& x == 0) with
    | none =>
      have hix : ix = -1 := by have := HID.out; rw [hf] at this; exact this
      subst hix
      have HT := Aside0.mk (show hitAll alts (k + 1) x wo = [x] by rw [HIT.out, hf])
      clear HID HIT hf
      have HS3d := Aside0.mk ((HS3.out).move (below_drew (Below.refl _ _)))
      have HBX3d := Aside0.mk (blk_below HBX3.out (below_drew (Below.refl _ _)))
      have HF3d := Aside0.mk ((HF3.out).trans (Fr.below (below_drew (Below.refl _ _))))
      go_upto_region 5 with (fail)
      refine wp_region_noPanic ?_
      refine start_ (n := 11) (S := fun w' => w'.cell? ⟨hb, 1, none⟩ = some v ∧ w'.cell? ⟨w.heap.size, 0, none⟩ = some (.int .i64 (x : Int))) (ds := [10]) #[false, false, false, false, false, false, false, false, false, false, false] (by kernel_rfl) rfl rfl ⟨pw_cell_below (below_drew (Below.refl _ _)) kh1, pw_cell_below (below_drew (Below.refl _ _)) kx⟩ (fun hHeld => ?_)
      refine with_tabW tab96 bits96 (fun HT_ HW_ => ?_)
      clear kh0 kh1 kx
      refine take_ (i := 0) (N := some 22) (v := ?_) (a' := ?_) #[true, false, false, false, false, false, false, false, false, false, false] rfl rfl (take_ofW HT_.out HW_.out (by kernel_rfl)) (fun _ _ _ h => h) (Or.inl ⟨by rfl, ?_⟩) hHeld ?_ ?_
      rotate_left
      · rintro w' ⟨s0, s1⟩
        go_simp
        with_reducible rfl
      rotate_left
      · simp only [Act.put, List.setIfInBounds_toArray, List.set_cons_zero, List.set_cons_succ]
        rfl
      refine take_ (i := 1) (N := some 23) (v := ?_) (a' := ?_) #[true, true, false, false, false, false, false, false, false, false, false] rfl rfl (take_ofW HT_.out HW_.out (by kernel_rfl)) (fun _ _ _ h => h) (Or.inl ⟨by rfl, ?_⟩) hHeld ?_ ?_
      rotate_left
      · rintro w' ⟨s0, s1⟩
        go_simp
        with_reducible rfl
      rotate_left
      · simp only [Act.put, List.setIfInBounds_toArray, List.set_cons_zero, List.set_cons_succ]
        rfl
      refine take_ (i := 2) (N := some 24) (v := ?_) (a' := ?_) #[true, true, true, false, false, false, false, false, false, false, false] rfl rfl (take_ofW HT_.out HW_.out (by kernel_rfl)) (fun _ _ _ h => h) (Or.inl ⟨by rfl, ?_⟩) hHeld ?_ ?_
      rotate_left
      · rintro w' ⟨s0, s1⟩
        go_simp
        with_reducible rfl
      rotate_left
      · simp only [Act.put, List.setIfInBounds_toArray, List.set_cons_zero, List.set_cons_succ]
        rfl
      refine take_ (i := 3) (N := some 25) (v := ?_) (a' := ?_) #[true, true, true, true, false, false, false, false, false, false, false] rfl rfl (take_ofW HT_.out HW_.out (by kernel_rfl)) (fun _ _ _ h => h) (Or.inl ⟨by rfl, ?_⟩) hHeld ?_ ?_
      rotate_left
      · rintro w' ⟨s0, s1⟩
        go_simp
        with_reducible rfl
      rotate_left
      · simp only [Act.put, List.setIfInBounds_toArray, List.set_cons_zero, List.set_cons_succ]
        rfl
      refine take_ (i := 4) (N := some 26) (v := ?_) (a' := ?_) #[true, true, true, true, true, false, false, false, false, false, false] rfl rfl (take_ofW HT_.out HW_.out (by kernel_rfl)) (fun _ _ _ h => h) (Or.inl ⟨by rfl, ?_⟩) hHeld ?_ ?_
      rotate_left
      · rintro w' ⟨s0, s1⟩
        go_simp
        with_reducible rfl
      rotate_left
      · simp only [Act.put, List.setIfInBounds_toArray, List.set_cons_zero, List.set_cons_succ]
        rfl
      refine take_ (i := 5) (N := some 27) (v := ?_) (a' := ?_) #[true, true, true, true, true, true, false, false, false, false, false] rfl rfl (take_ofW HT_.out HW_.out (by kernel_rfl)) (fun _ _ _ h => h) (Or.inl ⟨by rfl, ?_⟩) hHeld ?_ ?_
      rotate_left
      · rintro w' ⟨s0, s1⟩
        go_simp
        with_reducible rfl
      rotate_left
      · simp only [Act.put, List.setIfInBounds_toArray, List.set_cons_zero, List.set_cons_succ]
        rfl
      refine one_ (i := 6) (N := some 28) #[true, true, true, true, true, true, true, false, false, false, false] rfl rfl (one_of HT_.out (by kernel_rfl)) (by decide) (fun K hK => ?_)
      refine value_ (w1 := ?_) (v := ?_) (by rfl) rfl ?_ ?_
      rotate_left 2
      · go_simp
        constructor
        · rfl
        · rfl
      refine hK.out _ _ ⟨pw_cell_below (below_alloc (Below.refl _ _) _) hHeld.1, pw_cell_below (below_alloc (Below.refl _ _) _) hHeld.2⟩ (fun hHeld => ?_)
      clear hK K
      refine norm_ (a' := ?_) ?_ ?_
      rotate_left
      · show Act.put _ (some 28) _ = _
        simp only [Act.put, List.setIfInBounds_toArray, List.set_cons_zero, List.set_cons_succ]
        rfl
      refine one_ (i := 7) (N := some 29) #[true, true, true, true, true, true, true, true, false, false, false] rfl rfl (one_of HT_.out (by kernel_rfl)) (by decide) (fun K hK => ?_)
      refine Kd.R_append_step (Kd.int .i64) (w0 := w0) (W := W3.drew) w0.heap.size (by rfl) (.tmp 26) (.tmp 28) 22 3 (.int .i64 0) 8 rfl Tryz.underlying22 Q.info3 rfl (by decide) (by decide) v (ofN o) (x : Int) [.int .i64 (x : Int)] (fun k => t0 ≤ k) (fun _ => False) (by rfl) (by rfl) rfl (fun _ hk => hk.elim) (fun k hk => Nat.le_trans (HS3d.out).hW hk) (HS3d.out).ro (HS3d.out).below (HS3d.out).below.size (by rw [ofN_len]; have := HOL.out; omega) ?_
      intro v5 w5 ho5 hb5 hg5 hat5
      obtain ⟨HS6, HF6⟩ := (HS3d.out).put x ho5 hb5 hg5 hat5
      have HBK := Aside0.mk (blk_grown (HS3d.out).blk hg5 (fun e => (HS3d.out).reads.2.2.2.2 e.symm))
      have HBX5 := Aside0.mk (blk_grown HBX3d.out hg5 (fun e => HVX.out _ e.symm rfl))
      have m1 : w5.cell? ⟨hb, 1, none⟩ = some v := (blk_cell HBK.out 1).trans rfl
      have m2 : w5.cell? ⟨w.heap.size, 0, none⟩ = some (.int .i64 (x : Int)) := (blk_cell HBX5.out 0).trans rfl
      have mf := blk_frozen HBK.out 1
      have HS6' := Aside0.mk HS6
      have HF6' := Aside0.mk HF6
      obtain ⟨A5, c5, e5⟩ := Kd.R_slice ho5
      rw [show (ofN o ++ [(x : Int)]).length = o.length + 1 by rw [List.length_append, ofN_len, List.length_singleton]] at e5
      subst e5
      clear HS6 HF6 ho5 hb5 hg5 hat5
      refine hK.out _ _ ⟨m1, m2⟩ (fun hHeld => ?_)
      clear hK K
      refine norm_ (a' := ?_) ?_ ?_
      rotate_left
      · show Act.put _ (some 29) _ = _
        simp only [Act.put, List.setIfInBounds_toArray, List.set_cons_zero, List.set_cons_succ]
        rfl
      refine take_ (i := 8) (N := some 30) (v := ?_) (a' := ?_) #[true, true, true, true, true, true, true, true, true, false, false] rfl rfl (take_ofW HT_.out HW_.out (by kernel_rfl)) (fun _ _ _ h => h) (Or.inl ⟨by rfl, ?_⟩) hHeld ?_ ?_
      rotate_left
      · rintro w' ⟨s0, s1⟩
        go_simp
        with_reducible rfl
      rotate_left
      · simp only [Act.put, List.setIfInBounds_toArray, List.set_cons_zero, List.set_cons_succ]
        rfl
      refine take_ (i := 9) (N := some 31) (v := ?_) (a' := ?_) #[true, true, true, true, true, true, true, true, true, true, false] rfl rfl (take_ofW HT_.out HW_.out (by kernel_rfl)) (fun _ _ _ h => h) (Or.inl ⟨by rfl, ?_⟩) hHeld ?_ ?_
      rotate_left
      · rintro w' ⟨s0, s1⟩
        go_simp
        with_reducible rfl
      rotate_left
      · simp only [Act.put, List.setIfInBounds_toArray, List.set_cons_zero, List.set_cons_succ]
        rfl
      refine last_ (i := 10) (N := none) #[true, true, true, true, true, true, true, true, true, true, true] rfl rfl (one_of HT_.out (by kernel_rfl)) (by decide) (fun K hK => ?_)
      refine skip_ (w1 := ?_) (by rfl) rfl ?_ ?_
      rotate_left
      · go_simp
        rfl
      refine hK.out _ _ ?_
      clear hK K
      refine done_ (done_of HT_.out (by kernel_rfl)) ?_
      refine NoPanic.normal ?_
      clear m1 m2 mf hHeld
      have HF7 := Aside0.mk ((HF3d.out).trans HF6'.out)
      obtain ⟨k0_, k1_, _, _, _⟩ := (HS6'.out).reads
      generalize w5.setCell ⟨hb, 1, none⟩ (.slice A5 (o.length + 1) c5) = W6 at *
      go_wp2
      go_ret
      rw [HT.out]
      exact ⟨_, ret_b (by rw [List.length_append, List.length_singleton, Bool.eq_iff_iff, decide_eq_true_eq, decide_eq_true_eq]; omega), by rw [List.take_of_length_le (by rw [List.length_append, List.length_singleton]; have := HOL.out; omega)]; exact HS6'.out, HF7.out⟩
    | some l =>
      obtain ⟨j, hj, hjl, hix⟩ : ∃ j, j < alts.length ∧ alts.getD j 0 = l ∧ ix = (j : Int) := by
        have h0 := HID.out
        rw [hf] at h0
        obtain ⟨j, a, b, c⟩ := h0
        exact ⟨j, a, b, by rw [c]; omega⟩
      subst hix
      have HLZ := Aside0.mk (show (l &&& x == 0) = true from by have := List.find?_some hf; exact this)
      have HLL := Aside0.mk (show l < 16777216 from by rw [← hjl]; exact HAL.out _ (getD_memN2 hj))
      have HT := Aside0.mk (show hitAll alts (k + 1) x wo = hitBits (hitAll alts k) x wo (bitsN (andN l wo)) by rw [HIT.out, hf])
      obtain ⟨ad, e, hk⟩ := Kd.at_int HRD.out (j : Int) (by omega) (by omega)
      subst e
      rw [show rd (ofN alts) (j : Int) = (l : Int) by rw [← hjl]; simp [rd, ofN, List.getD_eq_getElem?_getD, List.getElem?_eq_getElem hj], Int.toNat_natCast] at hk
      have hjz : (j : Int) < (alts.length : Int) := by omega
      have hnl : bits .andNot .i64 (l : Int) (wo : Int) = ((andN l wo : Nat) : Int) := i64_andNot (by have := HLL.out; omega) (by have := HWO.out; omega)
      have HY0 := Aside0.mk (show andN l wo < 16777216 from Nat.lt_of_le_of_lt (andN_le _ _) HLL.out)
      have HYX := Aside0.mk (show ∀ i, (andN l wo).testBit i = true → x.testBit i = false from fun i hi => and_zero_bit HLZ.out (andN_bit hi))
      have HTT := Aside0.mk (show o ++ hitAll alts (k + 1) x wo = o ++ hitBits (hitAll alts k) x wo (bitsN (andN l wo)) by rw [HT.out])
      generalize htot : o ++ hitAll alts (k + 1) x wo = tot at *
      clear HID HIT hf htot hj hjl HT HLZ HLL
      generalize andN l wo = y0 at *
      go_wp2
      clear hnl hk kh0 kh1 kx hjz
      go_loopg [8, 2] y0 (fun gg v8 v2 wi => ∃ (y wo : Nat) (oc : List Nat) (vi : Value), y ≤ gg ∧ v8 = .int .i64 (y : Int) ∧ v2 = .int .i64 (wo : Int) ∧ y < 16777216 ∧ Aside0 (wo < 16777216) ∧ Aside0 (oc.length ≤ 12) ∧ Aside0 (∀ i, y.testBit i = true → x.testBit i = false) ∧ Aside0 (tot = oc ++ hitBits (hitAll alts k) x wo (bitsN y)) ∧ Aside0 (HS w0 t0 hb (some ad) c alts vi oc wi) ∧ Aside0 (Fr t0 hb v w vi wi) ∧ Aside0 (wi.heap[w.heap.size]? = some (.cells #[.int .i64 (x : Int)] 3 (0, 0))) ∧ Aside0 (∀ k, vi.ownBlock = some k → k ≠ w.heap.size))
      case atStart => exact ⟨y0, wo, o, v, Nat.le_refl _, rfl, rfl, HY0.out, HWO, HOL, HYX, HTT, HS3, HF3, HBX3, HVX⟩
      case round =>
        clear HY0 HYX HTT HWO HOL HS3 HF3 HBX3 HVX HRD HATR
        obtain ⟨y, wo, oc, vi, hgg, rfl, rfl, hy, HWO, HOC, HYX, HTT, HS4, HF4, HBX4, HVX4⟩ := hrel
        by_cases h0 : y = 0
        · subst h0
          have HT := Aside0.mk (show tot = oc by rw [HTT.out, bitsN_zero]; simp [hitBits])
          clear HTT HYX
          go_wp2
          go_ret
          exact ⟨vi, ret_b (by rw [HT.out, decide_eq_true HOC.out]), by rw [HT.out, List.take_of_length_le (Nat.le_succ_of_le HOC.out)]; exact HS4.out, HF4.out⟩
        · have h0z : ¬ (y : Int) = 0 := by omega
          have hlow := i64_low h0 hy
          have hneg : wrap64 (-(y : Int)) = -(y : Int) := wr_id (by omega) (by omega)
          have HDR := Aside0.mk (i64_drop h0 hy)
          have HDL := Aside0.mk (drop_lt h0 hy)
          obtain ⟨hb1, _, hb3⟩ := lo_bits h0 hy
          have HXI := Aside0.mk (HYX.out _ hb1)
          have HOR := Aside0.mk (or_lt HX.out hb3)
          have HWR := Aside0.mk (or_lt HWO.out hb3)
          have HLN := Aside0.mk (or_len HXI.out hb3)
          have HPW := Aside0.mk (lo_pow h0 hy)
          have HYX2 := Aside0.mk (show ∀ i, (y &&& (y - 1)).testBit i = true → x.testBit i = false from fun i hi => HYX.out i (by rw [drop_bit h0 hy, Bool.and_eq_true] at hi; exact hi.1))
          have HTS := Aside0.mk (show tot = (oc ++ hitAll alts k (x ||| 2 ^ lo y) wo) ++ hitBits (hitAll alts k) x (wo ||| 2 ^ lo y) (bitsN (y &&& (y - 1))) by rw [HTT.out, bitsN_step h0 hy, hitBits, List.append_assoc])
          have hor := i64_or (a := x) (b := 2 ^ lo y) (by have := HX.out; omega) (by have := (HPW.out).1; omega)
          have HORW := Aside0.mk (i64_or (a := wo) (b := 2 ^ lo y) (by have := HWO.out; omega) (by have := (HPW.out).1; omega))
          have HREC := Aside0.mk ((IH.out) (x ||| 2 ^ lo y) wo vi oc wr HOR.out HWO.out (by rw [HLN.out]; have := HKL.out; omega) HOC.out HS4.out)
          have kx : wr.cell? ⟨w.heap.size, 0, none⟩ = some (.int .i64 (x : Int)) := (blk_cell HBX4.out 0).trans rfl
          clear hb1 hb3 HTT HYX h0 HLN
          generalize hitAll alts k (x ||| 2 ^ lo y) wo = sub at *
          generalize 2 ^ lo y = q at *
          go_wp2_with fail
          refine (HREC.out).mono ?_
          rintro E W5 ⟨v5, rfl, HS5, HF5⟩
          have HS5' := Aside0.mk HS5
          have HF5' := Aside0.mk ((HF4.out).trans HF5)
          have HBX5 := Aside0.mk ((HF5.keep _ (blk_lt HBX4.out) (by have := HXB.out; omega) (.inr (fun e => HVX4.out _ e.symm rfl))).trans HBX4.out)
          have HVX5 := Aside0.mk (show ∀ k, v5.ownBlock = some k → k ≠ w.heap.size from fun k hk => by
            rcases HF5.own with e | ⟨b, e, hb⟩
            · rw [e] at hk; exact HVX4.out k hk
            · rw [e] at hk; injection hk with hk; have := blk_lt HBX4.out; omega)
          clear HS5 HF5 kx HREC HS4 HF4 HBX4 HVX4
          cases hq : decide ((oc ++ sub).length ≤ 12) with
          | false =>
            have HGT := Aside0.mk (show 13 ≤ (oc ++ sub).length from by have := of_decide_eq_false hq; omega)
            clear hq hor
            go_wp2
            go_ret
            refine ⟨v5, ret_b ?_, ?_, HF5'.out⟩
            · rw [HTS.out, List.length_append, decide_eq_false (by have := HGT.out; omega)]
            · rw [HTS.out, List.take_append_of_le_length HGT.out]; exact HS5'.out
          | true =>
            have HLE := Aside0.mk (show (oc ++ sub).length ≤ 12 from of_decide_eq_true hq)
            have HS6 := Aside0.mk (show HS w0 t0 hb (some ad) c alts v5 (oc ++ sub) W5 from by have := HS5'.out; rw [List.take_of_length_le (Nat.le_succ_of_le HLE.out)] at this; exact this)
            have hdrop := HDR.out
            have horw := HORW.out
            clear hq hor HS5'
            go_wp2
            go_roundg (y &&& (y - 1))
            case measure => have := HDL.out; omega
            case rel => exact ⟨y &&& (y - 1), wo ||| q, oc ++ sub, v5, Nat.le_refl _, rfl, rfl, by have := HDL.out; omega, HWR, HLE, HYX2, HTS, HS6, HF5', HBX5, HVX5⟩
end Go.Proofs.YtbmcigakiibncaaGreatDoor.H
namespace Go.Proofs.YtbmcigakiibncaaGreatDoor.H
open Go.RowKit Go.Proofs.YtbmcigakiibncaaGreatDoorW.PrintWords Go.Proofs.YtbmcigakiibncaaGreatDoorW.PrintLast Go.Proofs.YtbmcigakiibncaaGreatDoorW.PrintMore
set_option linter.unusedVariables false
set_option linter.unusedSimpArgs false
def Gr (w w' : World) : Prop := ∃ q os, w' = Sort.grow (w.drewN q) os
theorem Gr.refl (w : World) : Gr w w := ⟨0, #[], by simp [World.drewN]⟩
theorem Gr.trans {a b c : World} (h : Gr a b) (k : Gr b c) : Gr a c := by
  obtain ⟨q, os, rfl⟩ := h
  obtain ⟨r, ps, rfl⟩ := k
  exact ⟨q + r, os ++ ps, by simp [Sort.grow, World.drewN, Nat.add_assoc, Array.append_assoc]⟩
theorem Gr.alloc {a b : World} (h : Gr a b) (o : Obj) : Gr a (b.alloc o) := h.trans ⟨0, #[o], by unfold Sort.grow World.drewN World.alloc; simp⟩
theorem Gr.drew {a b : World} (h : Gr a b) : Gr a b.drew := h.trans ⟨1, #[], by simp [World.drewN]⟩
theorem Gr.below {a b : World} (h : Gr a b) : Below a.heap.size a b := by
  obtain ⟨q, os, rfl⟩ := h
  exact ⟨rfl, rfl, rfl, by simp [Sort.grow, World.drewN], fun k hk => by simp [Sort.grow, World.drewN, Array.getElem?_append_left hk]⟩
set_option maxHeartbeats 2000000 in
theorem beforeG_calls (x y : Nd) (hx : smallN x) (hy : smallN y) (W : World) : Calls Tryz.prog 76 #[.agg #[.int .i64 x.f0, .int .i64 x.f1], .agg #[.int .i64 y.f0, .int .i64 y.f1]] W fun E w' => E = .returned (.int .i64 (befI x y)) ∧ Gr W w' := by
  obtain ⟨a1, a2, a3, a4⟩ := hx
  obtain ⟨b1, b2, b3, b4⟩ := hy
  have hG := ((Gr.refl W).alloc (.cells #[.int .i64 x.f0, .int .i64 x.f1] 83)).alloc (.cells #[.int .i64 y.f0, .int .i64 y.f1] 83)
  have hz1 := blk_alloc (blk_new W (.cells #[.int .i64 x.f0, .int .i64 x.f1] 83)) (.cells #[.int .i64 y.f0, .int .i64 y.f1] 83)
  have hz2 := blk_at2 W (.cells #[.int .i64 x.f0, .int .i64 x.f1] 83) (.cells #[.int .i64 y.f0, .int .i64 y.f1] 83)
  have HG := Aside0.mk hG
  clear hG
  go_enter Tryz.func76, Tryz.ntmps76
  go_upto_region 1 with (fail)
  generalize ((W.alloc (.cells #[.int .i64 x.f0, .int .i64 x.f1] 83)).alloc (.cells #[.int .i64 y.f0, .int .i64 y.f1] 83)) = W5 at *
  have hk0 : W5.cell? ⟨W.heap.size, 0, none⟩ = some (.int .i64 x.f0) := (blk_cell hz1 0).trans rfl
  have hk1 : W5.cell? ⟨W.heap.size, 1, none⟩ = some (.int .i64 x.f1) := (blk_cell hz1 1).trans rfl
  have hk2 : W5.cell? ⟨W.heap.size + 1, 0, none⟩ = some (.int .i64 y.f0) := (blk_cell hz2 0).trans rfl
  have hk3 : W5.cell? ⟨W.heap.size + 1, 1, none⟩ = some (.int .i64 y.f1) := (blk_cell hz2 1).trans rfl
  have HGD := Aside0.mk ((HG.out).drew)
  clear hz1 hz2
  have w1 : wrap64 (x.f0 - y.f0) = x.f0 - y.f0 := wr_id (by omega) (by omega)
  have w2 : wrap64 (x.f1 - y.f1) = x.f1 - y.f1 := wr_id (by omega) (by omega)
  have HV := Aside0.mk (show befI x y = if x.f0 = y.f0 then x.f1 - y.f1 else x.f0 - y.f0 from rfl)
  by_cases h : x.f0 = y.f0
  · have d1 : (x.f0 == y.f0) = true := by simpa using h
    have d2 : (x.f0 != y.f0) = false := by simpa using h
    have HV2 := Aside0.mk (show befI x y = x.f1 - y.f1 by rw [HV.out, if_pos h])
    have H := Aside0.mk h
    clear h
    go_wp2
    first
      | (go_ret; exact ⟨by rw [HV2.out]; rfl, HG.out⟩)
  · have d1 : (x.f0 == y.f0) = false := by simpa using h
    have d2 : (x.f0 != y.f0) = true := by simpa using h
    have HV2 := Aside0.mk (show befI x y = x.f0 - y.f0 by rw [HV.out, if_neg h])
    have H := Aside0.mk h
    clear h
    go_wp2
    first
      | (go_ret; exact ⟨by rw [HV2.out]; rfl, HG.out⟩)
set_option maxHeartbeats 4000000 in
set_option maxRecDepth 100000 in
theorem cmpG_calls (a b : List Nd) (A : Option Addr) (ca : Nat) (B : Option Addr) (cb : Nat) (w : World) (hra : Kd.C Q.k83 w A a.length a) (hrb : Kd.C Q.k83 w B b.length b) (ha : a.length ≤ 24) (hxa : ∀ x ∈ a, smallN x) (hxb : ∀ x ∈ b, smallN x) :
    Calls Tryz.prog 109 #[.slice A a.length ca, .slice B b.length cb, .func (.func 76) #[] #[]] w fun e w' => e = .returned (.int .i64 (cmpL a b)) ∧ Gr w w' := by
  have HRA := Aside0.mk hra
  have HRB := Aside0.mk hrb
  have HL := Aside0.mk ha
  have HXA := Aside0.mk hxa
  have HXB := Aside0.mk hxb
  clear hra hrb ha hxa hxb
  go_enter Tryz.func109, Tryz.ntmps109
  go_wp2
  go_loopg [13] a.length (fun gg v13 wi => ∃ j : Nat, a.length - j ≤ gg ∧ v13 = .int .i64 j ∧ j ≤ a.length ∧ j ≤ b.length ∧ Aside0 (Gr w wi) ∧ Aside0 (cmpL (a.drop j) (b.drop j) = cmpL a b))
  case atStart => exact ⟨0, by omega, rfl, by omega, by omega, ⟨Gr.refl _⟩, ⟨rfl⟩⟩
  case round =>
    obtain ⟨j, hgg, rfl, hj, hjb, HB, HE⟩ := hrel
    by_cases hlt : j < a.length
    · have hltz : (j : Int) < (a.length : Int) := by omega
      obtain ⟨ad, e, hx0, hx1⟩ := at_need HRA.out j hlt
      subst e
      replace hx0 := pw_cell_below (HB.out).below hx0
      replace hx1 := pw_cell_below (HB.out).below hx1
      have h1 := HXA.out _ (getD_memN hlt)
      by_cases hlb : j < b.length
      · have hlbz : ¬ (j : Int) ≥ (b.length : Int) := by omega
        have hlb2 : (j : Int) < (b.length : Int) := by omega
        obtain ⟨bd, e, hy0, hy1⟩ := at_need HRB.out j hlb
        subst e
        replace hy0 := pw_cell_below (HB.out).below hy0
        replace hy1 := pw_cell_below (HB.out).below hy1
        have h2 := HXB.out _ (getD_memN hlb)
        have hst := cmpL_drop hlt hlb
        rw [HE.out] at hst
        generalize a.getD j zN = x at *
        generalize b.getD j zN = y at *
        have HBe := Aside0.mk fun W : World => beforeG_calls x y h1 h2 W
        clear h1 h2
        generalize befI x y = v at *
        have HST := Aside0.mk hst
        clear hst
        have hal := ((Gr.refl wr).alloc (.cells #[.int .i64 x.f0, .int .i64 x.f1] 83)).alloc (.cells #[.int .i64 y.f0, .int .i64 y.f1] 83)
        have hz1 := blk_alloc (blk_new wr (.cells #[.int .i64 x.f0, .int .i64 x.f1] 83)) (.cells #[.int .i64 y.f0, .int .i64 y.f1] 83)
        have hz2 := blk_at2 wr (.cells #[.int .i64 x.f0, .int .i64 x.f1] 83) (.cells #[.int .i64 y.f0, .int .i64 y.f1] 83)
        have hy0' := pw_cell_below (below_alloc (Below.refl wr.heap.size wr) (.cells #[.int .i64 x.f0, .int .i64 x.f1] 83)) hy0
        have hy1' := pw_cell_below (below_alloc (Below.refl wr.heap.size wr) (.cells #[.int .i64 x.f0, .int .i64 x.f1] 83)) hy1
        clear hy0 hy1
        have HB2 := Aside0.mk ((HB.out).trans hal)
        clear hal
        go_upto_region 7 with (fail)
        generalize ((wr.alloc (.cells #[.int .i64 x.f0, .int .i64 x.f1] 83)).alloc (.cells #[.int .i64 y.f0, .int .i64 y.f1] 83)) = w5 at *
        have hk0 : w5.cell? ⟨wr.heap.size, 0, none⟩ = some (.int .i64 x.f0) := (blk_cell hz1 0).trans rfl
        have hk1 : w5.cell? ⟨wr.heap.size, 1, none⟩ = some (.int .i64 x.f1) := (blk_cell hz1 1).trans rfl
        have hk2 : w5.cell? ⟨wr.heap.size + 1, 0, none⟩ = some (.int .i64 y.f0) := (blk_cell hz2 0).trans rfl
        have hk3 : w5.cell? ⟨wr.heap.size + 1, 1, none⟩ = some (.int .i64 y.f1) := (blk_cell hz2 1).trans rfl
        clear hz1 hz2 hx0 hx1 hy0' hy1'
        by_cases hv : v = 0
        · subst hv
          have hst2 := HST.out
          rw [if_neg (by simp)] at hst2
          have HST2 := Aside0.mk hst2
          clear hst2 HST
          go_wp2_with fail
          refine (HBe.out _).mono ?_
          rintro E w6 ⟨rfl, hb⟩
          have HB6 := Aside0.mk ((HB2.out).trans hb)
          clear hb hk0 hk1 hk2 hk3 HB2
          go_wp2
          go_roundg (a.length - (j + 1))
          case measure => omega
          case rel => exact ⟨j + 1, by omega, by rw [wrap_succ (by omega) (by have := HL.out; omega)]; rfl, by omega, by omega, HB6, ⟨HST2.out.symm⟩⟩
        · have d1 : (v == 0) = false := beq_eq_false_iff_ne.2 hv
          have d2 : (v != 0) = true := bne_iff_ne.2 hv
          have hst2 := HST.out
          rw [if_pos hv] at hst2
          have HST2 := Aside0.mk hst2
          clear hst2 HST hv
          go_wp2_with fail
          refine (HBe.out _).mono ?_
          rintro E w6 ⟨rfl, hb⟩
          have HB6 := Aside0.mk ((HB2.out).trans hb)
          clear hb hk0 hk1 hk2 hk3 HB2
          go_wp2
          go_ret
          exact ⟨by rw [HST2.out]; rfl, HB6.out⟩
      · have hlbz : (j : Int) ≥ (b.length : Int) := by omega
        have hv := HE.out
        rw [show b.drop j = [] from List.drop_eq_nil_of_le (by omega), cmpL_end _ (by intro h; have := congrArg List.length h; rw [List.length_drop, List.length_nil] at this; omega)] at hv
        have HV := Aside0.mk hv
        clear hv h1
        generalize a.getD j zN = x at *
        have hal := (Gr.refl wr).alloc (.cells #[.int .i64 x.f0, .int .i64 x.f1] 83)
        have HB2 := Aside0.mk ((HB.out).trans hal)
        clear hal
        go_wp2
        go_ret
        exact ⟨by rw [← HV.out]; rfl, HB2.out⟩
    · have hltz : ¬ (j : Int) < (a.length : Int) := by omega
      have hje : j = a.length := by omega
      have hv := HE.out
      rw [hje, List.drop_length, cmpL_nil, List.length_drop] at hv
      by_cases hab : a.length < b.length
      · have habz : (a.length : Int) < (b.length : Int) := by omega
        rw [if_neg (by omega)] at hv
        have HV := Aside0.mk hv
        clear hv hje
        go_wp2
        go_ret
        exact ⟨by rw [← HV.out]; rfl, HB.out⟩
      · have habz : ¬ (a.length : Int) < (b.length : Int) := by omega
        rw [if_pos (by omega)] at hv
        have HV := Aside0.mk hv
        clear hv hje
        go_wp2
        go_ret
        exact ⟨by rw [← HV.out]; rfl, HB.out⟩
theorem listsG_calls (a b : List Nd) (A : Option Addr) (ca : Nat) (B : Option Addr) (cb : Nat) (w : World) (hra : Kd.C Q.k83 w A a.length a) (hrb : Kd.C Q.k83 w B b.length b) (ha : a.length ≤ 24) (hxa : ∀ x ∈ a, smallN x) (hxb : ∀ x ∈ b, smallN x) :
    Calls Tryz.prog 78 #[.slice A a.length ca, .slice B b.length cb] w fun e w' => e = .returned (.int .i64 (cmpL a b)) ∧ Gr w w' := by
  have H := Aside0.mk (cmpG_calls a b A ca B cb w hra hrb ha hxa hxb)
  clear hra hrb ha hxa hxb
  go_enter Tryz.func78, Tryz.ntmps78
  go_wp2_with fail
  refine (H.out).mono ?_
  rintro E w2 ⟨rfl, hb⟩
  have HB := Aside0.mk hb
  clear hb H
  go_wp2
  go_ret
  exact ⟨rfl, HB.out⟩
end Go.Proofs.YtbmcigakiibncaaGreatDoor.H
namespace Go.Proofs.YtbmcigakiibncaaGreatDoor.H
open Go.RowKit Go.Proofs.YtbmcigakiibncaaGreatDoorW.PrintWords Go.Proofs.YtbmcigakiibncaaGreatDoorW.PrintLast Go.Proofs.YtbmcigakiibncaaGreatDoorW.PrintMore
set_option linter.unusedVariables false
set_option linter.unusedSimpArgs false
theorem befI_zero {x y : Nd} (h : befI x y = 0) : x = y := by
  rcases x with ⟨a, b⟩
  rcases y with ⟨c, d⟩
  unfold befI at h
  simp only at h
  split at h
  · rename_i e; have h2 : b = d := by omega
    rw [show a = c from e, h2]
  · rename_i e; exact absurd (by omega) e
theorem befI_self (x : Nd) : befI x x = 0 := by unfold befI; rw [if_pos rfl]; omega
theorem befI_neg {x y : Nd} : befI x y < 0 ↔ 0 < befI y x := by
  unfold befI
  by_cases h : x.f0 = y.f0
  · rw [if_pos h, if_pos h.symm]; omega
  · rw [if_neg h, if_neg (fun e => h e.symm)]; omega
theorem befI_trans {x y z : Nd} (h : befI x y < 0) (k : befI y z < 0) : befI x z < 0 := by
  unfold befI at *
  split at h <;> split at k <;> split <;> omega
theorem cmpL_self : ∀ a : List Nd, cmpL a a = 0
  | [] => rfl
  | x :: a => by rw [cmpL, if_neg (by rw [befI_self]; simp)]; exact cmpL_self a
theorem cmpL_zero : ∀ {a b : List Nd}, cmpL a b = 0 → a = b
  | [], [], _ => rfl
  | [], _ :: _, h => by simp [cmpL] at h
  | _ :: _, [], h => by simp [cmpL] at h
  | x :: a, y :: b, h => by
    rw [cmpL] at h
    by_cases e : befI x y = 0
    · rw [if_neg (by simpa using e)] at h
      rw [befI_zero e, cmpL_zero h]
    · rw [if_pos e] at h; exact absurd h e
theorem cmpL_neg : ∀ {a b : List Nd}, cmpL a b < 0 ↔ 0 < cmpL b a
  | [], [] => by simp [cmpL]
  | [], _ :: _ => by simp [cmpL]
  | _ :: _, [] => by simp [cmpL]
  | x :: a, y :: b => by
    rw [cmpL, cmpL]
    by_cases e : befI x y = 0
    · have e2 : befI y x = 0 := by rw [befI_zero e]; exact befI_self _
      rw [if_neg (by simpa using e), if_neg (by simpa using e2)]
      exact cmpL_neg
    · have e2 : befI y x ≠ 0 := fun h => e (by rw [befI_zero h]; exact befI_self _)
      rw [if_pos e, if_pos e2]
      exact befI_neg
theorem cmpL_trans : ∀ {a b c : List Nd}, cmpL a b < 0 → cmpL b c < 0 → cmpL a c < 0
  | [], [], _, h, _ => by simp [cmpL] at h
  | [], _ :: _, [], _, k => by simp [cmpL] at k
  | [], _ :: _, _ :: _, _, _ => by simp [cmpL]
  | _ :: _, [], _, h, _ => by simp [cmpL] at h
  | _ :: _, _ :: _, [], _, k => by simp [cmpL] at k
  | x :: a, y :: b, z :: c, h, k => by
    rw [cmpL] at h k ⊢
    by_cases e : befI x y = 0
    · rw [if_neg (by simpa using e)] at h
      have exy := befI_zero e
      subst exy
      by_cases e2 : befI x z = 0
      · rw [if_neg (by simpa using e2)] at k ⊢
        exact cmpL_trans h k
      · rw [if_pos e2] at k ⊢; exact k
    · rw [if_pos e] at h
      by_cases e2 : befI y z = 0
      · have eyz := befI_zero e2
        subst eyz
        rw [if_pos e]; exact h
      · rw [if_pos e2] at k
        have := befI_trans h k
        rw [if_pos (by omega)]; exact this
def leL (a b : List Nd) : Prop := ¬ cmpL b a < 0
theorem leL_iff {a b : List Nd} : leL a b ↔ cmpL a b < 0 ∨ a = b := by
  unfold leL
  constructor
  · intro h
    by_cases e : cmpL b a = 0
    · exact .inr (cmpL_zero e).symm
    · exact .inl (cmpL_neg.2 (by omega))
  · rintro (h | rfl)
    · have := cmpL_neg.1 h; omega
    · rw [cmpL_self]; omega
theorem leL_trans {a b c : List Nd} (h : leL a b) (k : leL b c) : leL a c := by
  rw [leL_iff] at *
  rcases h with h | rfl
  · rcases k with k | rfl
    · exact .inl (cmpL_trans h k)
    · exact .inl h
  · exact k
theorem leL_anti {a b : List Nd} (h : leL a b) (k : leL b a) : a = b := by
  rw [leL_iff] at h
  rcases h with h | h
  · exact absurd h k
  · exact h
def insL (x : List Nd) : List (List Nd) → List (List Nd)
  | [] => [x]
  | y :: r => if cmpL y x < 0 then y :: insL x r else x :: y :: r
def sortL : List (List Nd) → List (List Nd)
  | [] => []
  | x :: r => insL x (sortL r)
theorem insL_perm (x : List Nd) : ∀ l, (insL x l).Perm (x :: l)
  | [] => List.Perm.refl _
  | y :: r => by
    rw [insL]
    split
    · exact ((insL_perm x r).cons y).trans (List.Perm.swap x y r)
    · exact List.Perm.refl _
theorem sortL_perm : ∀ l, (sortL l).Perm l
  | [] => List.Perm.refl _
  | x :: r => (insL_perm x (sortL r)).trans ((sortL_perm r).cons x)
theorem insL_sorted (x : List Nd) : ∀ {l : List (List Nd)}, l.Pairwise leL → (insL x l).Pairwise leL
  | [], _ => List.pairwise_singleton _ _
  | y :: r, h => by
    rw [insL]
    have hy := (List.pairwise_cons.1 h).1
    have hr := (List.pairwise_cons.1 h).2
    split
    · rename_i hc
      refine List.pairwise_cons.2 ⟨fun z hz => ?_, insL_sorted x hr⟩
      rcases List.mem_cons.1 ((insL_perm x r).mem_iff.1 hz) with rfl | hz
      · exact leL_iff.2 (.inl hc)
      · exact hy z hz
    · rename_i hc
      refine List.pairwise_cons.2 ⟨fun z hz => ?_, h⟩
      rcases List.mem_cons.1 hz with rfl | hz
      · exact hc
      · exact leL_trans hc (hy z hz)
theorem sortL_sorted : ∀ l, (sortL l).Pairwise leL
  | [] => List.Pairwise.nil
  | x :: r => insL_sorted x (sortL_sorted r)
theorem sorted_one : ∀ {l m : List (List Nd)}, l.Perm m → l.Pairwise leL → m.Pairwise leL → l = m
  | [], m, h, _, _ => (List.Perm.nil_eq h)
  | a :: l, [], h, _, _ => absurd h.length_eq (by simp)
  | a :: l, b :: m, h, h1, h2 => by
    have e : a = b := by
      have ha : a ∈ b :: m := h.mem_iff.1 (List.mem_cons_self ..)
      have hb : b ∈ a :: l := h.mem_iff.2 (List.mem_cons_self ..)
      rcases List.mem_cons.1 ha with e | ha
      · exact e
      rcases List.mem_cons.1 hb with e | hb
      · exact e.symm
      exact leL_anti ((List.pairwise_cons.1 h1).1 b hb) ((List.pairwise_cons.1 h2).1 a ha)
    subst e
    rw [sorted_one h.cons_inv (List.pairwise_cons.1 h1).2 (List.pairwise_cons.1 h2).2]
end Go.Proofs.YtbmcigakiibncaaGreatDoor.H
namespace Go.Proofs.YtbmcigakiibncaaGreatDoor.H
open Go.RowKit Go.Proofs.YtbmcigakiibncaaGreatDoorW.PrintWords Go.Proofs.YtbmcigakiibncaaGreatDoorW.PrintLast Go.Proofs.YtbmcigakiibncaaGreatDoorW.PrintMore
set_option linter.unusedVariables false
set_option linter.unusedSimpArgs false
theorem heap_sortedG {enc : Nat → Value} {w : World} {g n : Nat} {os : Array Obj} {cur : Array Value} {e : TypeId} {fr : Nat × Nat} (d : Array Nat) (hb : w.heap[g]? = some (.cells cur e fr)) :
    (sortWorld enc w g 0 n d os).heap[g]? = some (.cells (Sort.putCells enc 0 d cur) e fr) := by
  have hg : g < w.heap.size := (Array.getElem?_eq_some_iff.1 hb).1
  unfold sortWorld
  rw [Sort.heap_grow_old _ _ (by simpa using hg)]
  simp [Sort.putRow, Sort.mapBlock, Sort.ahead, Array.getElem?_modify, hb, Sort.onCells]
theorem grownBy_sortedG {enc : Nat → Value} {w : World} {g n : Nat} {os : Array Obj} (d : Array Nat) : w.grownBy (sortWorld enc w g 0 n d os) (some g) := by
  refine ⟨rfl, rfl, rfl, by simp [sortWorld, Sort.grow], fun k hk hne => ?_⟩
  unfold sortWorld
  rw [Sort.heap_grow_old _ _ (by simpa using hk)]
  have : g ≠ k := fun e => hne (by rw [e])
  simp [Sort.putRow, Sort.mapBlock, Sort.ahead, Array.getElem?_modify, this]
theorem take_putCellsG {enc : Nat → Value} (cur : Array Value) (d : Array Nat) (h : d.size ≤ cur.size) : (Sort.putCells enc 0 d cur).toList.take d.size = d.toList.map enc := by
  apply List.ext_getElem?
  intro j
  by_cases hj : j < d.size
  · rw [List.getElem?_take_of_lt hj, Array.getElem?_toList]
    simp [Sort.putCells, hj, show j < cur.size by omega]
  · rw [List.getElem?_take_eq_none (by omega), List.getElem?_eq_none (by simp; omega)]
theorem getD_memY {α : Type} {l : List α} {i : Nat} (d : α) (h : i < l.length) : l.getD i d ∈ l := by
  rw [List.getD_eq_getElem?_getD, List.getElem?_eq_getElem h]; exact List.getElem_mem h
theorem eg78 : ∀ args w, (callFunc 78 args).run Tryz.prog w = .ok (.enter 78 args) w := enters_of Tryz.func78 (by kernel_rfl) rfl
def SortE (base : Nat) (ok : Nat → Prop) (v : Value) (D : List (List Nd)) (w : World) (e : Ending) (w' : World) : Prop :=
  e = .returned (.tuple #[]) ∧ kA1.R 69 w' base ok v (sortL D) ∧ w.grownBy w' v.ownBlock
theorem swoL (f : Nat → List Nd) : Sort.SWO (ltOf fun i j => cmpL (f i) (f j)) where
  irrefl x := by show decide (cmpL (f x) (f x) < 0) = false; rw [cmpL_self]; rfl
  trans x y z h1 h2 := by
    unfold ltOf at *
    rw [decide_eq_true_eq] at *
    exact cmpL_trans h1 h2
  ntrans x y z h1 h2 := by
    unfold ltOf at *
    rw [decide_eq_false_iff_not] at *
    exact leL_trans h2 h1
theorem sortG_calls (base : Nat) (ok : Nat → Prop) (v : Value) (D : List (List Nd)) (w : World) (hR : kA1.R 69 w base ok v D) (hD : ∀ l ∈ D, l.length ≤ 24 ∧ ∀ x ∈ l, smallN x) (hn : D.length ≤ 100) :
    Calls Tryz.prog 97 #[v, .func (.func 78) #[] #[]] w (SortE base ok v D w) := by
  have hR0 := hR
  obtain ⟨hok, inner, ho, hr⟩ := hR
  rcases ho.2 with ⟨rfl, h0⟩ | ⟨g, cap, cur, rfl, hb, hh, hnc, hcm, hcs, htake⟩
  · obtain rfl : D = [] := List.length_eq_zero_iff.1 h0
    have hN := AnyF.slices_SortFunc_none (P := Tryz.prog) (ρ := Tryz.sortN_ren) { Tryz.sortN with } none 0 (.func (.func 78) #[] #[]) w
    refine hN.mono ?_
    rintro e w' ⟨rfl, rfl⟩
    exact ⟨rfl, hR0, ⟨rfl, rfl, rfl, Nat.le_refl _, fun _ _ _ => rfl⟩⟩
  · have hsz : kA1.sz = 1 := rfl
    rw [hsz] at htake hcs hr
    rw [Nat.mul_one] at htake hcs
    have hil : inner.length = D.length := by have := hr.1; rw [Nat.mul_one] at this; exact this
    have hM : ∀ i, Kd.R Q.k83 83 w base (fun k => ok k ∧ k ≠ g) (inner.getD i (.slice none 0 0)) (D.getD i []) := by
      intro i
      by_cases hi : i < D.length
      · have h1 := hr.2 i (D.getD i []) (by rw [List.getD_eq_getElem?_getD, List.getElem?_eq_getElem hi]; rfl)
        obtain ⟨u, hu, hR⟩ := h1
        have e : inner.getD i (.slice none 0 0) = u := by
          have hi' : i < inner.length := by omega
          rw [Nat.mul_one, List.drop_eq_getElem_cons hi', List.take_succ_cons, List.take_zero] at hu
          injection hu with hu _
          rw [List.getD_eq_getElem?_getD, List.getElem?_eq_getElem hi']
          exact hu
        rw [e]
        exact Kd.R_mono hR (fun k hk => ⟨hk.1, fun e => hk.2 (by rw [e]; rfl)⟩)
      · rw [List.getD_eq_getElem?_getD, List.getElem?_eq_none (by omega), List.getD_eq_getElem?_getD, List.getElem?_eq_none (by omega)]
        exact Kd.R_nil _ _ _ _ _
    have hlist : ∀ i, (D.getD i []).length ≤ 24 ∧ ∀ x ∈ D.getD i [], smallN x := by
      intro i
      by_cases hi : i < D.length
      · exact hD _ (getD_memY [] hi)
      · rw [List.getD_eq_getElem?_getD, List.getElem?_eq_none (by omega)]
        exact ⟨by simp, fun x hx => by cases hx⟩
    have hgl := blk_lt hh
    let enc : Nat → Value := fun i => inner.getD i (.slice none 0 0)
    let lst : Nat → List Nd := fun i => D.getD i []
    have hmove : ∀ m os (dk : Array Nat) i, Kd.R Q.k83 83 (sortWorld enc w g 0 m dk os) base (fun k => ok k ∧ k ≠ g) (enc i) (lst i) := fun m os dk i =>
      R_same (hM i) (fun k hk hlt => (grownBy_sortedG dk).block k hlt (fun e => hk.2 (Option.some.inj e)))
    have hcmp : CmpLays1 Tryz.prog 78 #[] enc (fun i j => cmpL (lst i) (lst j)) g 0 (Array.range D.length).size w := by
      intro m os dk hs x y
      have hx := hmove m os dk x
      have hy := hmove m os dk y
      obtain ⟨A, ca, ea⟩ := Kd.R_slice hx
      obtain ⟨B, cb, eb⟩ := Kd.R_slice hy
      rw [ea] at hx ⊢
      rw [eb] at hy ⊢
      exact listsG_calls (lst x) (lst y) A ca B cb _ (Kd.R_reads' hx).2.2 (Kd.R_reads' hy).2.2 (hlist x).1 (hlist x).2 (hlist y).2
    have hH : Sort.Holds enc w g 0 (Array.range D.length) := by
      intro j hj
      have hj' : j < D.length := by simpa using hj
      refine ⟨?_, blk_frozen hh _⟩
      rw [Nat.zero_add, blk_cell hh j]
      have h1 : (cur.toList.take D.length)[j]? = inner[j]? := by rw [htake]
      rw [List.getElem?_take_of_lt hj', Array.getElem?_toList] at h1
      rw [h1]
      simp [enc, hj', List.getD_eq_getElem?_getD, show j < inner.length by omega]
    have h := Any.slices_SortFunc (P := Tryz.prog) (ρ := Tryz.sortN_ren) Tryz.sortN enc (fun i => by obtain ⟨A, c, e⟩ := Kd.R_slice (hM i); show (inner.getD i (.slice none 0 0)).oneCell' = true; rw [e]; rfl) _ (swoL lst) 78 #[] g 0 cap (Array.range D.length) w eg78 hcmp hH hgl (by simp; omega)
    rw [Array.size_range] at h
    refine h.mono ?_
    rintro e w' ⟨rfl, d', n, os, hp, hs, rfl⟩
    have hds : d'.size = D.length := by have := hp.1; rw [this, Array.size_range]
    have hperm : (d'.toList.map lst).Perm D := by
      have h1 := hp.2.2
      rw [show d'.extract 0 D.length = d' by rw [← hds]; exact Array.extract_size, show (Array.range D.length).extract 0 D.length = Array.range D.length by rw [Array.extract_eq_self_of_le (by simp)]] at h1
      have h2 := h1.map lst
      refine h2.trans (List.Perm.of_eq ?_)
      apply List.ext_getElem?
      intro i
      by_cases hi : i < D.length
      · simp [lst, hi, List.getD_eq_getElem?_getD]
      · rw [List.getElem?_eq_none (by simp; omega), List.getElem?_eq_none (by omega)]
    have hsort : (d'.toList.map lst).Pairwise leL := by
      rw [List.pairwise_iff_getElem]
      intro i j hi hj hij
      rw [List.length_map, Array.length_toList] at hi hj
      have h1 := hs i j (Nat.zero_le _) hij (by omega)
      unfold ltOf at h1
      rw [decide_eq_false_iff_not, getElem!_pos d' i hi, getElem!_pos d' j hj] at h1
      simpa [leL] using h1
    have hD2 : d'.toList.map lst = sortL D := sorted_one (hperm.trans (sortL_perm D).symm) hsort (sortL_sorted D)
    have hlen : (d'.toList.map lst).length = D.length := by simp [hds]
    refine ⟨rfl, ?_, grownBy_sortedG d'⟩
    rw [← hD2]
    refine ⟨hok, d'.toList.map enc, ⟨?_, .inr ⟨g, cap, _, ?_, hb, heap_sortedG d' hh, ?_, hcm, ?_, ?_⟩⟩, ?_, ?_⟩
    · simp [hsz]
    · rw [hlen]
    · rw [hlen]; exact hnc
    · rw [hsz, Nat.mul_one]; simp [Sort.putCells, hcs]
    · rw [hsz, Nat.mul_one, hlen, ← hds]
      exact take_putCellsG cur d' (by omega)
    · simp [hsz]
    · intro j p hj
      obtain ⟨hjl, hjp⟩ := List.getElem?_eq_some_iff.1 hj
      rw [List.length_map, Array.length_toList] at hjl
      have hjl2 : j < (d'.toList.map enc).length := by simpa using hjl
      refine ⟨enc d'[j], ?_, ?_⟩
      · rw [hsz, Nat.mul_one, List.drop_eq_getElem_cons hjl2, List.take_succ_cons, List.take_zero]
        simp
      · rw [← hjp, List.getElem_map, Array.getElem_toList]
        exact Kd.R_mono (hmove n os d' d'[j]) (fun k hk => ⟨hk.1, fun e => hk.2 (Option.some.inj e)⟩)
end Go.Proofs.YtbmcigakiibncaaGreatDoor.H
namespace Go.Proofs.YtbmcigakiibncaaGreatDoor.H
open Go.RowKit Go.Proofs.YtbmcigakiibncaaGreatDoorW.PrintWords Go.Proofs.YtbmcigakiibncaaGreatDoorW.PrintLast Go.Proofs.YtbmcigakiibncaaGreatDoorW.PrintMore
set_option linter.unusedVariables false
set_option linter.unusedSimpArgs false
def spotN (x : Nd) : Nat := (x.f0 * 6 + x.f1).toNat
def maskF (m : Nat) (l : List Nd) : Nat := l.foldl (fun m x => m ||| 2 ^ spotN x) m
def maskN (l : List Nd) : Nat := maskF 0 l
def needI (i : Nat) : Nd := ⟨((i / 6 : Nat) : Int), ((i % 6 : Nat) : Int)⟩
def unN (m : Nat) : List Nd := (bitsN m).map needI
def hitsOf (al : List (List Nd)) : List Nat := hitAll (al.map maskN) 25 0 0
def dualD (al : List (List Nd)) : List (List Nd) := sortL (((hitsOf al).take 13).map unN)
def dualOk (al : List (List Nd)) : Bool := decide ((hitsOf al).length ≤ 12)
def InN (x : Nd) : Prop := 0 ≤ x.f0 ∧ x.f0 < 4 ∧ 0 ≤ x.f1 ∧ x.f1 < 6
theorem spot_lt {x : Nd} (h : InN x) : spotN x < 24 ∧ x.f0 * 6 + x.f1 = (spotN x : Int) := by unfold InN at h; unfold spotN; omega
theorem maskF_lt : ∀ (l : List Nd) (m : Nat), m < 16777216 → (∀ x ∈ l, InN x) → maskF m l < 16777216
  | [], m, hm, _ => hm
  | x :: r, m, hm, h => maskF_lt r _ (or_lt hm (spot_lt (h x (List.mem_cons_self ..))).1) (fun y hy => h y (List.mem_cons_of_mem _ hy))
theorem maskN_lt {l : List Nd} (h : ∀ x ∈ l, InN x) : maskN l < 16777216 := maskF_lt l 0 (by decide) h
theorem bits_lt {m i : Nat} (h : i < (bitsN m).length) : (bitsN m).getD i 0 < 24 := by
  have h1 : (bitsN m).getD i 0 ∈ bitsN m := getD_memY 0 h
  exact (bitsN_mem.1 h1).1
theorem unN_small (m : Nat) : (unN m).length ≤ 24 ∧ ∀ x ∈ unN m, InN x := by
  refine ⟨by unfold unN; rw [List.length_map]; exact bitsN_len m, fun x hx => ?_⟩
  unfold unN at hx
  obtain ⟨i, hi, rfl⟩ := List.mem_map.1 hx
  have := (bitsN_mem.1 hi).1
  unfold InN needI
  simp only
  omega
theorem InN.small {x : Nd} (h : InN x) : smallN x := by unfold InN at h; unfold smallN; omega
theorem or_spot {m : Nat} {x : Nd} (hm : m < 16777216) (h : InN x) : bits .or .i64 (m : Int) (wrap64 (2 ^ (x.f0 * 6 + x.f1).toNat)) = ((m ||| 2 ^ spotN x : Nat) : Int) := by
  have h1 := (spot_lt h).1
  have h2 : 2 ^ spotN x < 16777216 := Nat.lt_of_lt_of_le (Nat.pow_lt_pow_right (by decide) h1) (by decide)
  have e : ((2 : Int) ^ (x.f0 * 6 + x.f1).toNat) = ((2 ^ spotN x : Nat) : Int) := by unfold spotN; push_cast; rfl
  rw [e]
  generalize 2 ^ spotN x = q at *
  rw [wr_id (by omega) (by omega)]
  exact i64_or (by omega) (by omega)
theorem hitBits_lt {rec : Nat → Nat → List Nat} {x : Nat} (h : ∀ i wo, i < 24 → ∀ m ∈ rec (x ||| 2 ^ i) wo, m < 16777216) : ∀ (l : List Nat) (wo : Nat), (∀ i ∈ l, i < 24) → ∀ m ∈ hitBits rec x wo l, m < 16777216
  | [], _, _, m, hm => by simp [hitBits] at hm
  | i :: r, wo, hl, m, hm => by
    rw [hitBits] at hm
    rcases List.mem_append.1 hm with hm | hm
    · exact h i wo (hl i (List.mem_cons_self ..)) m hm
    · exact hitBits_lt h r _ (fun j hj => hl j (List.mem_cons_of_mem _ hj)) m hm
theorem hitAll_lt (alts : List Nat) : ∀ (k x wo : Nat), x < 16777216 → ∀ m ∈ hitAll alts k x wo, m < 16777216
  | 0, _, _, _, m, hm => by simp [hitAll] at hm
  | k + 1, x, wo, hx, m, hm => by
    rw [hitAll] at hm
    split at hm
    · split at hm
      · rw [List.mem_singleton] at hm; rw [hm]; exact hx
      · exact hitBits_lt (fun i wo hi m hm => hitAll_lt alts k _ wo (or_lt hx hi) m hm) _ _ (fun i hi => (bitsN_mem.1 hi).1) m hm
    · cases hm
theorem hits_lt {al : List (List Nd)} (h : ∀ l ∈ al.map maskN, l < 16777216) : ∀ m ∈ hitsOf al, m < 16777216 := hitAll_lt _ 25 0 0 (by decide)
structure HB1 (w : World) (v : Value) (ms : List Nat) (W : World) : Prop where
  below : Below w.heap.size w W
  blk : W.heap[w.heap.size]? = some (.cells #[v, .slice none 0 0] 124 (0, 0))
  ra : Kd.R (Kd.int .i64) 3 W w.heap.size (fun k => k ≠ w.heap.size ∧ w.heap.size ≤ k) v (ofN ms)
theorem HB1.move {w W W1 : World} {v : Value} {ms : List Nat} (h : HB1 w v ms W) (hb : Below W.heap.size W W1) : HB1 w v ms W1 := ⟨below_then h.below h.below.size hb, blk_below h.blk hb, Kd.R_below h.ra hb⟩
theorem HB1.start (w : World) : HB1 w (.slice none 0 0) [] (w.alloc (.cells #[.slice none 0 0, .slice none 0 0] 124)) := ⟨below_alloc (Below.refl _ _) _, blk_new w _, Kd.R_nil _ _ _ _ _⟩
theorem HB1.put {w W W1 : World} {v v1 : Value} {ms : List Nat} (h : HB1 w v ms W) (m : Nat) (hr : Kd.R (Kd.int .i64) 3 W1 w.heap.size (fun k => k ≠ w.heap.size ∧ w.heap.size ≤ k) v1 (ofN ms ++ [(m : Int)])) (hb1 : Below w.heap.size w W1) (hg : W.grownBy W1 v.ownBlock) :
    HB1 w v1 (ms ++ [m]) (W1.setCell ⟨w.heap.size, 0, none⟩ v1) := by
  have hbk := blk_grown h.blk hg (fun e => (h.ra.1 _ e.symm).1 rfl)
  refine ⟨hb1.setCell (p := ⟨w.heap.size, 0, none⟩) (Nat.le_refl _) _, blk_set hbk 0 v1, ?_⟩
  rw [show ofN (ms ++ [m]) = ofN ms ++ [(m : Int)] by unfold ofN; simp]
  exact R_same hr (fun k hk _ => Below.heap_setCell W1 _ _ k hk.1)
theorem HB1.hs {w W : World} {A : Option Addr} {c : Nat} {ms : List Nat} (h : HB1 w (.slice A ms.length c) ms W) : HS w W.heap.size w.heap.size A c ms (.slice none 0 0) [] W :=
  ⟨h.below, Nat.le_refl _, blk_lt h.blk, Nat.le_refl _, h.blk, Kd.R_mono (Kd.R_bound h.ra) (fun k hk => ⟨hk.2.2.1, hk.1.1⟩), Kd.R_nil _ _ _ _ _⟩
def DualE (al : List (List Nd)) (w : World) (E : Ending) (w' : World) : Prop :=
  ∃ v, E = .returned (.tuple #[v, .bool (dualOk al)]) ∧ kA1.R 69 w' w.heap.size (fun k => w.heap.size ≤ k) v (dualD al) ∧ Below w.heap.size w w'
set_option maxHeartbeats 16000000 in
set_option maxRecDepth 100000 in
theorem dual_calls (al : List (List Nd)) (A : Option Addr) (c : Nat) (w : World) (hr : Kd.C kA1 w A al.length al) (hl : al.length ≤ 12) (hx : ∀ l ∈ al, l.length ≤ 24 ∧ ∀ x ∈ l, InN x) (ht : TabD w) :
    Calls Tryz.prog 50 #[.slice A al.length c] w (DualE al w) := by
  have HR := Aside0.mk hr
  have HL := Aside0.mk hl
  have HX := Aside0.mk hx
  have HT := Aside0.mk ht
  have HS0 := Aside0.mk (HB1.start w)
  clear hr hl hx ht
  go_enter Tryz.func50, Tryz.ntmps50
  go_upto_region 2 with (fail)
  generalize w.alloc (.cells #[.slice none 0 0, .slice none 0 0] 124) = W1 at *
  go_wp2
  go_loopg [21] al.length (fun gg v21 wi => ∃ (i : Nat) (va : Value), i ≤ al.length ∧ al.length - i ≤ gg ∧ v21 = .int .i64 i ∧ Aside0 (HB1 w va ((al.take i).map maskN) wi))
  case atStart => exact ⟨0, _, Nat.zero_le _, Nat.le_refl _, rfl, HS0⟩
  case round =>
    clear HS0
    obtain ⟨i, va, hi, hgg, rfl, HS1⟩ := hrel
    by_cases hlt : i < al.length
    · have hltz : (i : Int) < (al.length : Int) := by omega
      have HLT := Aside0.mk hlt
      obtain ⟨ad, A0, c0, e, hk, hc0, hrow⟩ := at_sl HR.out i hlt
      subst e
      have hk2 := pw_cell_below (HS1.out).below hk
      have HROW := Aside0.mk hrow
      have HXL := Aside0.mk (HX.out _ (getD_memY [] hlt))
      have HKZ := Aside0.mk (show wrap64 ((i : Int) + 1) = ((i + 1 : Nat) : Int) by rw [wr_id (by omega) (by have := HL.out; omega)]; rfl)
      have HTK := Aside0.mk (show (al.take (i + 1)).map maskN = (al.take i).map maskN ++ [maskN (al.getD i [])] by
        rw [List.take_add_one, List.map_append, List.getD_eq_getElem?_getD, List.getElem?_eq_getElem hlt]; rfl)
      clear hk hc0 hrow hlt hi
      generalize al.getD i [] = l at *
      go_wp2
      clear hk2 hltz
      go_loopg [27, 7] l.length (fun gg v27 v7 wi => ∃ (j m : Nat), j ≤ l.length ∧ l.length - j ≤ gg ∧ v27 = .int .i64 j ∧ v7 = .int .i64 (m : Int) ∧ m < 16777216 ∧ Aside0 (maskF m (l.drop j) = maskN l) ∧ Aside0 (HB1 w va ((al.take i).map maskN) wi))
      case atStart => exact ⟨0, 0, Nat.zero_le _, Nat.le_refl _, rfl, rfl, by decide, ⟨rfl⟩, HS1⟩
      case round =>
        clear HS1
        obtain ⟨j, m, hj, hgg, rfl, rfl, hm, HM, HS2⟩ := hrel
        by_cases hlt : j < l.length
        · have hltz : (j : Int) < (l.length : Int) := by omega
          have HLJ := Aside0.mk hlt
          obtain ⟨ad2, e, hk, hkb⟩ := at_need HROW.out j hlt
          subst e
          have hk2 := pw_cell_below (HS2.out).below hk
          have hk3 := pw_cell_below (HS2.out).below hkb
          have HIN := Aside0.mk ((HXL.out).2 _ (getD_memY zN hlt))
          have HDJ := Aside0.mk (show l.drop j = l.getD j zN :: l.drop (j + 1) by
            rw [List.drop_eq_getElem_cons hlt, List.getD_eq_getElem?_getD, List.getElem?_eq_getElem hlt]; rfl)
          have HKJ := Aside0.mk (show wrap64 ((j : Int) + 1) = ((j + 1 : Nat) : Int) by rw [wr_id (by omega) (by have := (HXL.out).1; omega)]; rfl)
          clear hk hkb hlt hj
          generalize l.getD j zN = x at *
          have HSA := Aside0.mk ((HS2.out).move (below_alloc (Below.refl _ _) (.cells #[.int .i64 x.f0, .int .i64 x.f1] 83)))
          have k8 : (wr.alloc (.cells #[.int .i64 x.f0, .int .i64 x.f1] 83)).cell? ⟨wr.heap.size, 0, none⟩ = some (.int .i64 x.f0) := (blk_cell (blk_new wr _) 0).trans rfl
          have k9 : (wr.alloc (.cells #[.int .i64 x.f0, .int .i64 x.f1] 83)).cell? ⟨wr.heap.size, 1, none⟩ = some (.int .i64 x.f1) := (blk_cell (blk_new wr _) 1).trans rfl
          go_upto_region 9 with (fail)
          clear hk2 hk3 HS2
          generalize wr.alloc (.cells #[.int .i64 x.f0, .int .i64 x.f1] 83) = W8 at *
          have hin := HIN.out
          obtain ⟨i1, i2, i3, i4⟩ := hin
          have HOS := Aside0.mk (or_spot hm HIN.out)
          have HML := Aside0.mk (or_lt hm (spot_lt HIN.out).1)
          go_wp2
          go_roundg (l.length - (j + 1))
          case measure => have := HLJ.out; omega
          case rel => exact ⟨j + 1, m ||| 2 ^ spotN x, HLJ.out, Nat.le_refl _, by rw [HKJ.out], by rw [HOS.out], HML.out, ⟨by rw [← HM.out, HDJ.out]; rfl⟩, HSA⟩
        · obtain rfl : j = l.length := by omega
          have HMM := Aside0.mk (show m = maskN l by rw [← HM.out, List.drop_length]; rfl)
          have k0 : wr.cell? ⟨w.heap.size, 0, none⟩ = some va := (blk_cell (HS2.out).blk 0).trans rfl
          have HLM := Aside0.mk (show (ofN ((al.take i).map maskN)).length ≤ 12 by rw [ofN_len, List.length_map, List.length_take]; have := HL.out; omega)
          have HLI := Aside0.mk (show (ofN ((al.take i).map maskN) ++ [(m : Int)]).length = i + 1 by rw [List.length_append, ofN_len, List.length_map, List.length_take, List.length_singleton]; have := HLT.out; omega)
          clear HM hj hgg hlt
          go_wp2_with ((with_reducible refine gate_builtin (b := .append) (xs := #[.tmp 45, .tmp 47]) rfl ?_); at_builtin; refine Kd.R_append (Kd.int .i64) (w0 := w) w.heap.size rfl (.tmp 45) (.tmp 47) 22 3 (.int .i64 0) 8 rfl Tryz.underlying22 Q.info3 rfl (by decide) (by omega) va (ofN ((al.take i).map maskN)) (m : Int) [.int .i64 (m : Int)] (fun k => k ≠ w.heap.size ∧ w.heap.size ≤ k) (fun _ => False) rfl rfl rfl (fun _ hk => hk.elim) (fun k hk => by have h1 := blk_lt (HS2.out).blk; have h2 : wr.heap.size ≤ k := hk; exact ⟨by omega, by omega⟩) (HS2.out).ra (HS2.out).below (HS2.out).below.size (by have := HLM.out; omega) ?_; intro v5 w5 ho5 hb5 hg5 hat5; have HS5 := Aside0.mk ((HS2.out).put m ho5 hb5 hg5); have HBK := Aside0.mk (blk_grown (HS2.out).blk hg5 (fun e => ((HS2.out).ra.1 _ e.symm).1 rfl)); have k5 : w5.cell? ⟨w.heap.size, 0, none⟩ = some va := (blk_cell HBK.out 0).trans rfl; have f5 := blk_frozen HBK.out 0; (obtain ⟨A5, c5, e5⟩ := Kd.R_slice ho5); rw [HLI.out] at e5; subst e5; clear ho5 hb5 hg5 hat5)
          go_roundg (al.length - (i + 1))
          case measure => have := HLT.out; omega
          case rel => exact ⟨i + 1, _, HLT.out, Nat.le_refl _, by rw [HKZ.out], ⟨by rw [HTK.out, ← HMM.out]; exact HS5.out⟩⟩
    · obtain rfl : i = al.length := by omega
      rw [List.take_length] at HS1
      have hra := (HS1.out).ra
      obtain ⟨A5, c5, e5⟩ := Kd.R_slice hra
      rw [ofN_len] at e5
      subst e5
      have HAM := Aside0.mk (show ∀ l ∈ al.map maskN, l < 16777216 from fun m hm => by
        obtain ⟨l, hl, rfl⟩ := List.mem_map.1 hm
        exact maskN_lt (HX.out l hl).2)
      have HHT := Aside0.mk (show Calls Tryz.prog 96 #[.pointer (some ⟨w.heap.size, 0, none⟩), .int .i64 0, .int .i64 0] wr (HitE w wr.heap.size w.heap.size A5 c5 (al.map maskN) (.slice none 0 0) (hitsOf al) wr) from
        hit_calls w wr.heap.size w.heap.size A5 c5 (al.map maskN) HAM.out 25 0 0 (.slice none 0 0) [] wr (by decide) (by decide) (by omega) (by decide) (HS1.out).hs)
      clear hra hi hgg hlt HS1 HR
      go_wp2_with fail
      refine (HHT.out).mono ?_
      rintro E W5 ⟨v5, rfl, HS5, HF5⟩
      have HSH := Aside0.mk HS5
      have HB5 := Aside0.mk HS5.below
      obtain ⟨A6, c6, e6⟩ := Kd.R_slice HS5.ro
      rw [ofN_len] at e6
      subst e6
      have hrd := Kd.R_reads' HS5.ro
      rw [ofN_len] at hrd
      have HRD := Aside0.mk hrd.2.2
      have k1 : W5.cell? ⟨w.heap.size, 1, none⟩ = some (.slice A6 ((hitsOf al).take 13).length c6) := (blk_cell HS5.blk 1).trans rfl
      have HT5 := Aside0.mk ((HT.out).below HS5.below)
      have HOKD := Aside0.mk (show dualOk al = decide ((hitsOf al).length ≤ 12) from rfl)
      rw [← HOKD.out]
      have HDD := Aside0.mk (show dualD al = sortL (((hitsOf al).take 13).map unN) from rfl)
      have HOL := Aside0.mk (show ((hitsOf al).take 13).length ≤ 13 from List.length_take_le _ _)
      have HOM := Aside0.mk (show ∀ m ∈ (hitsOf al).take 13, m < 16777216 from fun m hm => hits_lt HAM.out m (List.mem_of_mem_take hm))
      generalize (hitsOf al).take 13 = outs at *
      clear HS5 HF5 hrd HHT HSH HAM
      have HBW := Aside0.mk (Below.refl W5.heap.size W5)
      go_wp2
      clear k1
      go_loopg [59, 11] outs.length (fun gg v59 v11 wi => ∃ i : Nat, i ≤ outs.length ∧ outs.length - i ≤ gg ∧ v59 = .int .i64 i ∧ Aside0 (Below W5.heap.size W5 wi) ∧ Aside0 (kA1.R 69 wi W5.heap.size (fun k => W5.heap.size ≤ k) v11 ((outs.take i).map unN)))
      case atStart => exact ⟨0, Nat.zero_le _, Nat.le_refl _, rfl, HBW, ⟨Kd.R_nil _ _ _ _ _⟩⟩
      case round =>
        clear HBW
        obtain ⟨i, hi, hgg, rfl, HBW, HRO⟩ := hrel
        generalize wr = WR at *
        by_cases hlt : i < outs.length
        · have hltz : (i : Int) < (outs.length : Int) := by omega
          have HLT := Aside0.mk hlt
          obtain ⟨ad, e, hk⟩ := Kd.at_int HRD.out (i : Int) (by omega) (by omega)
          subst e
          rw [show rd (ofN outs) (i : Int) = ((outs.getD i 0 : Nat) : Int) by simp [rd, ofN, List.getD_eq_getElem?_getD, List.getElem?_eq_getElem hlt], Int.toNat_natCast] at hk
          have hk2 := pw_cell_below (HBW.out) hk
          have HMM := Aside0.mk (HOM.out _ (getD_memY 0 hlt))
          have HTK := Aside0.mk (show (outs.take (i + 1)).map unN = (outs.take i).map unN ++ [unN (outs.getD i 0)] by
            rw [List.take_add_one, List.map_append, List.getD_eq_getElem?_getD, List.getElem?_eq_getElem hlt]; rfl)
          have HKZ := Aside0.mk (show wrap64 ((i : Int) + 1) = ((i + 1 : Nat) : Int) by rw [wr_id (by omega) (by have := HOL.out; omega)]; rfl)
          clear hk hlt hi
          generalize outs.getD i 0 = m at *
          have HLW := Aside0.mk (listW_calls m HMM.out WR ((HT5.out).below HBW.out))
          go_wp2_with fail
          refine (HLW.out).mono ?_
          rintro E W6 ⟨A7, c7, rfl, hc7, hC7, hb7⟩
          have HC7 := Aside0.mk hC7
          have HB7 := Aside0.mk hb7
          have HBL := Aside0.mk (bitsI_len m)
          have HEQ := Aside0.mk (show bitsI m = ofN (bitsN m) from rfl)
          clear hk2 hltz hc7 hC7 hb7 HLW
          have HEL := Aside0.mk (show (bitsI m).length = (bitsN m).length from by rw [HEQ.out, ofN_len])
          go_wp2
          go_loopg [66, 14] (bitsI m).length (fun gg v66 v14 wi => ∃ j : Nat, j ≤ (bitsI m).length ∧ (bitsI m).length - j ≤ gg ∧ v66 = .int .i64 j ∧ Aside0 (Below WR.heap.size WR wi) ∧ Aside0 (Below W6.heap.size W6 wi) ∧ Aside0 (Kd.R Q.k83 83 wi WR.heap.size (fun k => W6.heap.size ≤ k) v14 (((bitsN m).take j).map needI)))
          case atStart => exact ⟨0, Nat.zero_le _, Nat.le_refl _, rfl, HB7, ⟨Below.refl _ _⟩, ⟨Kd.R_nil _ _ _ _ _⟩⟩
          case round =>
            obtain ⟨j, hj, hgg, rfl, HBR, HB6, HRL⟩ := hrel
            by_cases hlt : j < (bitsI m).length
            · have hltz : (j : Int) < ((bitsI m).length : Int) := by omega
              have HLJ := Aside0.mk hlt
              obtain ⟨ad2, e, hk⟩ := Kd.at_int HC7.out (j : Int) (by omega) (by omega)
              subst e
              have hlt2 : j < (bitsN m).length := by have := HEL.out; omega
              rw [show rd (bitsI m) (j : Int) = (((bitsN m).getD j 0 : Nat) : Int) by rw [HEQ.out]; simp [rd, ofN, List.getD_eq_getElem?_getD, List.getElem?_eq_getElem hlt2], Int.toNat_natCast] at hk
              have hk2 := pw_cell_below (HB6.out) hk
              have HBI := Aside0.mk (bits_lt hlt2)
              have HTJ := Aside0.mk (show ((bitsN m).take (j + 1)).map needI = ((bitsN m).take j).map needI ++ [needI ((bitsN m).getD j 0)] by
                rw [List.take_add_one, List.map_append, List.getD_eq_getElem?_getD, List.getElem?_eq_getElem hlt2]; rfl)
              have HLL := Aside0.mk (show (((bitsN m).take j).map needI).length ≤ 24 by rw [List.length_map, List.length_take]; have := bitsN_len m; omega)
              have HKJ := Aside0.mk (show wrap64 ((j : Int) + 1) = ((j + 1 : Nat) : Int) by rw [wr_id (by omega) (by have := HBL.out; omega)]; rfl)
              have HSZ := Aside0.mk (show WR.heap.size ≤ W6.heap.size from (HB7.out).size)
              clear hk hlt hlt2 hj
              generalize (bitsN m).getD j 0 = i2 at *
              have hi2 := HBI.out
              have HLN := Aside0.mk (show (((bitsN m).take j).map needI).length = j by rw [List.length_map, List.length_take]; have := HLJ.out; have := HEL.out; omega)
              obtain ⟨A8, c8, e8⟩ := Kd.R_slice HRL.out
              rw [HLN.out] at e8
              subst e8
              have HNI := Aside0.mk (show (⟨(i2 : Int) / 6, (i2 : Int) % 6⟩ : Nd) = needI i2 from rfl)
              have HLN2 := Aside0.mk (show (((bitsN m).take (j + 1)).map needI).length = j + 1 by rw [HTJ.out, List.length_append, HLN.out]; rfl)
              go_wp2_with ((with_reducible refine gate_builtin (b := .append) (xs := #[.tmp 70, .tmp 76]) rfl ?_); at_builtin; refine Kd.R_append Q.k83 (w0 := WR) WR.heap.size rfl (.tmp 70) (.tmp 76) 69 83 (.agg #[.int .i64 0, .int .i64 0]) 16 rfl Tryz.underlying69 Q.info83 rfl (by decide) (by decide) (.slice A8 j c8) (((bitsN m).take j).map needI) ⟨(i2 : Int) / 6, (i2 : Int) % 6⟩ [.int .i64 ((i2 : Int) / 6), .int .i64 ((i2 : Int) % 6)] (fun k => W6.heap.size ≤ k) (fun _ => False) rfl rfl (Q.k83_mkM _ _ _ ⟨(i2 : Int) / 6, (i2 : Int) % 6⟩) (fun _ hk => hk.elim) (fun k hk => Nat.le_trans (HB6.out).size hk) HRL.out HBR.out (HBR.out).size (by have := HLL.out; omega) ?_; intro v7 w7 ho7 hb7 hg7 hat7; have HB8 := Aside0.mk (pw_below_grown HB6.out _ (HB6.out).size hg7 (fun k hk => (HRL.out).1 k hk)); rw [HNI.out, ← HTJ.out] at ho7; have HR7 := Aside0.mk ho7; have HBR7 := Aside0.mk hb7; (obtain ⟨A9, c9, e9⟩ := Kd.R_slice ho7); rw [HLN2.out] at e9; subst e9; clear ho7 hb7 hg7 hat7)
              go_roundg ((bitsI m).length - (j + 1))
              case measure => have := HLJ.out; omega
              case rel => exact ⟨j + 1, HLJ.out, Nat.le_refl _, by rw [HKJ.out], HBR7, HB8, HR7⟩
            · obtain rfl : j = (bitsI m).length := by omega
              have HUN := Aside0.mk (show ((bitsN m).take (bitsI m).length).map needI = unN m by rw [HEL.out, List.take_length]; rfl)
              rw [HUN.out] at HRL
              obtain ⟨A8, c8, e8⟩ := Kd.R_slice HRL.out
              subst e8
              have HRO2 := Aside0.mk (Kd.R_below HRO.out HBR.out)
              have HBW2 := Aside0.mk (below_then HBW.out (HBW.out).size HBR.out)
              have HRL2 := Aside0.mk (Kd.R_lower HRL.out (HBW.out).size)
              have HOWN := Aside0.mk (show ∀ k, u11.ownBlock = some k → k < W6.heap.size from fun k hk => Nat.lt_of_lt_of_le (ownBlock_typed HRO.out hk).2 (HB7.out).size)
              have HLO := Aside0.mk (show ((outs.take i).map unN).length ≤ 13 by rw [List.length_map, List.length_take]; have := HOL.out; omega)
              clear HBR HRL HRO hj hgg hlt
              go_wp2_with ((with_reducible refine gate_builtin (b := .append) (xs := #[.tmp 79, .tmp 81]) rfl ?_); at_builtin; refine Kd.R_append kA1 (w0 := W5) W5.heap.size rfl (.tmp 79) (.tmp 81) 66 69 (.slice none 0 0) 24 rfl Tryz.underlying66 Q.info69 rfl (show 0 < 1 by decide) (by decide) u11 ((outs.take i).map unN) (unN m) [.slice A8 (unN m).length c8] (fun k => W5.heap.size ≤ k) (fun k => W6.heap.size ≤ k) rfl rfl ⟨_, rfl, HRL2.out⟩ (fun k hk => ⟨by have h1 := (HBW.out).size; have h2 := (HB7.out).size; have h3 : W6.heap.size ≤ k := hk; show W5.heap.size ≤ k; omega, fun e => by have h1 := HOWN.out k e.symm; have h3 : W6.heap.size ≤ k := hk; omega⟩) (fun k hk => by have h1 := (HBW2.out).size; have h3 : wr.heap.size ≤ k := hk; show W5.heap.size ≤ k; omega) HRO2.out HBW2.out (HBW2.out).size (by have := HLO.out; omega) ?_; intro v7 w7 ho7 hb7 hg7 hat7; rw [← HTK.out] at ho7; have HR7 := Aside0.mk ho7; have HBW7 := Aside0.mk hb7; clear ho7 hb7 hg7 hat7)
              go_roundg (outs.length - (i + 1))
              case measure => have := HLT.out; omega
              case rel => exact ⟨i + 1, HLT.out, Nat.le_refl _, by rw [HKZ.out], HBW7, HR7⟩
        · obtain rfl : i = outs.length := by omega
          rw [List.take_length] at HRO
          have HSRT := Aside0.mk (sortG_calls W5.heap.size (fun k => W5.heap.size ≤ k) u11 (outs.map unN) WR HRO.out (fun l hl => by
            obtain ⟨m, hm, rfl⟩ := List.mem_map.1 hl
            exact ⟨(unN_small m).1, fun x hx => ((unN_small m).2 x hx).small⟩) (by rw [List.length_map]; have := HOL.out; omega))
          have HOWN := Aside0.mk (show ∀ k, u11.ownBlock = some k → W5.heap.size ≤ k from (HRO.out).1)
          clear hi hgg hlt HRO
          go_wp2_with fail
          refine (HSRT.out).mono ?_
          rintro E W6 ⟨rfl, hR, hg⟩
          have HR6 := Aside0.mk (Kd.R_mono (Kd.R_lower hR (HB5.out).size) (fun k hk => Nat.le_trans (HB5.out).size hk))
          have HB6 := Aside0.mk (below_then HB5.out (HB5.out).size (pw_below_grown HBW.out _ (HBW.out).size hg (fun k hk => HOWN.out k hk)))
          clear hR hg
          go_wp2
          go_ret2
          exact ⟨u11, rfl, by rw [HDD.out]; exact HR6.out, HB6.out⟩
end Go.Proofs.YtbmcigakiibncaaGreatDoor.H
namespace Go.Proofs.YtbmcigakiibncaaGreatDoor.H
open Go.RowKit Go.Proofs.YtbmcigakiibncaaGreatDoorW.PrintWords Go.Proofs.YtbmcigakiibncaaGreatDoorW.PrintLast Go.Proofs.YtbmcigakiibncaaGreatDoorW.PrintMore
set_option linter.unusedVariables false
theorem size76 : (Tryz.prog.info? 76).map (fun i => i.size) = some 2 := by kernel_rfl
theorem lies76 : liesAt Tryz.prog Tryz.prog.depth 76 (2 / Tryz.prog.cellsOf 76) 0 76 1 = true := by kernel_rfl
theorem info5b : (Tryz.prog.info? 5).map (fun i => (i.zero, i.size, i.bytes)) = some (some (.int .u8 0), 1, 1) := by kernel_rfl
set_option maxHeartbeats 2000000 in
set_option maxRecDepth 100000 in
theorem check_used (b : Nat) (w : World) (h0 : w.cell? ⟨b, 0, none⟩ = some (.pointer (some ⟨b, 0, none⟩))) :
    Calls Tryz.prog 100 #[.pointer (some ⟨b, 0, none⟩)] w fun e w' => e = .returned (.tuple #[]) ∧ w' = w := by
  obtain ⟨j, hj, _⟩ := Option.map_eq_some_iff.1 size76
  go_enter Tryz.func100, Tryz.ntmps100
  go_wp2
  rw [Lib.run_neq_ptr_same w _ Tryz.underlying73 hj]
  go_wp2
  go_end0
  exact ⟨rfl, rfl⟩
set_option maxHeartbeats 2000000 in
set_option maxRecDepth 100000 in
theorem check_fresh (b : Nat) (w : World) (h0 : w.cell? ⟨b, 0, none⟩ = some (.pointer none)) (hsh : w.shape? b = some (76, 2)) (hfz : w.frozen? ⟨b, 0, none⟩ = false) :
    Calls Tryz.prog 100 #[.pointer (some ⟨b, 0, none⟩)] w fun e w' => e = .returned (.tuple #[]) ∧ w' = w.setCell ⟨b, 0, none⟩ (.pointer (some ⟨b, 0, none⟩)) := by
  obtain ⟨j, hj, hjs⟩ := Option.map_eq_some_iff.1 size76
  go_enter Tryz.func100, Tryz.ntmps100
  go_wp2
  rw [Lib.run_to_unsafe w ⟨b, 0, none⟩ Tryz.underlying73 Tryz.underlying147 hj (by rw [hjs]; decide) hsh (Nat.zero_lt_succ 1)]
  simp only [Result.andThen]
  rw [Oper.upon_value]
  go_wp2
  rw [run_callFunc_extern Tryz.func120 (by kernel_rfl) (by kernel_rfl) (by kernel_rfl) (e := Extern.AbiNoEscape.same) (by kernel_rfl)]
  rw [Lib.run_noEscape]
  simp only [Result.andThen]
  rw [Oper.upon_value]
  go_wp2
  rw [Lib.run_from_unsafe w ⟨b, 0, none⟩ Tryz.underlying147 Tryz.underlying73 hj hsh lies76]
  simp only [Result.andThen]
  rw [Oper.upon_value]
  go_wp2
  go_end0
  exact ⟨rfl, rfl⟩
theorem check_calls (B b : Nat) (bs : List Value) (w : World) (h : Lib.IsBuilder 76 5 B b bs w) :
    Calls Tryz.prog 100 #[.pointer (some ⟨b, 0, none⟩)] w fun e w' => e = .returned (.tuple #[]) ∧ (Lib.BuilderAt 76 5 B b (.pointer (some ⟨b, 0, none⟩)) bs w' ∧ Below B w w') := by
  rcases h with h | h
  · refine (check_fresh b w h.cell0 h.shape h.frozen0).mono ?_
    rintro e w' ⟨rfl, rfl⟩
    exact ⟨rfl, h.used _, (Below.refl B w).setCell (p := ⟨b, 0, none⟩) h.1 _⟩
  · refine (check_used b w h.cell0).mono ?_
    rintro e w' ⟨rfl, rfl⟩
    exact ⟨rfl, h, Below.refl B _⟩
def BB (B b : Nat) (l : List UInt8) (w : World) : Prop := Lib.IsBuilder 76 5 B b (Lib.byteCells l) w
set_option maxHeartbeats 2000000 in
set_option maxRecDepth 100000 in
theorem wstr_calls (B b : Nat) (bs : List Value) (s : ByteArray) (w : World) (h : Lib.IsBuilder 76 5 B b bs w) (hlen : bs.length + s.size ≤ 140737488355328) (hBw : B ≤ w.heap.size) :
    Calls Tryz.prog 52 #[.pointer (some ⟨b, 0, none⟩), .string s] w fun e w' => e = .returned (.tuple #[.int .i64 s.size, .nilIface]) ∧ (Lib.BuilderAt 76 5 B b (.pointer (some ⟨b, 0, none⟩)) (bs ++ Lib.strCells s) w' ∧ Below B w w') := by
  obtain ⟨i0, hi, hz0, hz1, hz2⟩ := info_parts info5b
  have HC := Aside0.mk (check_calls B b bs w h)
  clear h
  go_enter Tryz.func52, Tryz.ntmps52
  go_wp2_with fail
  refine (HC.out).mono ?_
  rintro e w1 ⟨rfl, h1, hb1⟩
  obtain ⟨hB, v, hbk, hown, hne⟩ := h1
  have c0 : w1.cell? ⟨b, 0, none⟩ = some (.pointer (some ⟨b, 0, none⟩)) := by rw [Lib.cell_of_heap hbk]; rfl
  have c1 : w1.cell? ⟨b, 1, none⟩ = some v := by rw [Lib.cell_of_heap hbk]; rfl
  go_wp2_with (at_builtin; refine Lib.wpList_append_own_string _ rfl _ _ 74 9 rfl B 5 i0 Tryz.underlying74 Tryz.underlying9 hi hz0 hz1 hz2 _ _ _ rfl hown s rfl ?c3 ?c4 ?c5 ?_)
  case c3 => unfold maxLen; omega
  case c4 => omega
  case c5 => have := hb1.size; omega
  intro v' w2 hown' hgrow _
  have hlt : b < w1.heap.size := blk_lt hbk
  have hb2 : w2.heap[b]? = some (.cells #[.pointer (some ⟨b, 0, none⟩), v] 76 (0, 0)) := by
    rw [hgrow.block b hlt (fun e => hne e.symm)]
    exact hbk
  have d0 : w2.cell? ⟨b, 0, none⟩ = some (.pointer (some ⟨b, 0, none⟩)) := by rw [Lib.cell_of_heap hb2]; rfl
  have d1 : w2.cell? ⟨b, 1, none⟩ = some v := by rw [Lib.cell_of_heap hb2]; rfl
  have f1 : w2.frozen? ⟨b, 1, none⟩ = false := Lib.frozen_of_heap hb2 1
  obtain ⟨ao, n', cap, rfl⟩ : ∃ ao n' cap, v' = .slice ao n' cap := by
    rcases hown'.2 with ⟨hv, _⟩ | ⟨g, cap, cur, hv, _⟩
    · exact ⟨_, _, _, hv⟩
    · exact ⟨_, _, _, hv⟩
  go_wp2
  go_ret2
  refine ⟨rfl, ?_, ?_⟩
  · exact Lib.BuilderAt.put (T := 76) (e := 5) hB hb2 (bs' := bs ++ Lib.strCells s) (by simpa [Lib.strCells_length] using hown') (by decide)
  · exact (hb1.grown hgrow (by have := hb1.size; omega) (fun k hk => (hown.lt k hk).1)).setCell (p := ⟨b, 1, none⟩) hB _
set_option maxHeartbeats 2000000 in
set_option maxRecDepth 100000 in
theorem wbyte_calls (B b : Nat) (bs : List Value) (c : Int) (w : World) (h : Lib.IsBuilder 76 5 B b bs w) (hlen : bs.length + 1 ≤ 140737488355328) (hBw : B ≤ w.heap.size) :
    Calls Tryz.prog 54 #[.pointer (some ⟨b, 0, none⟩), .int .u8 c] w fun e w' => e = .returned .nilIface ∧ (Lib.BuilderAt 76 5 B b (.pointer (some ⟨b, 0, none⟩)) (bs ++ [.int .u8 c]) w' ∧ Below B w w') := by
  obtain ⟨i0, hi, hz0, hz1, hz2⟩ := info_parts info5b
  have HC := Aside0.mk (check_calls B b bs w h)
  clear h
  go_enter Tryz.func54, Tryz.ntmps54
  go_wp2_with fail
  refine (HC.out).mono ?_
  rintro e w1 ⟨rfl, h1, hb1⟩
  obtain ⟨hB, v, hbk, hown, hne⟩ := h1
  have c0 : w1.cell? ⟨b, 0, none⟩ = some (.pointer (some ⟨b, 0, none⟩)) := by rw [Lib.cell_of_heap hbk]; rfl
  have c1 : w1.cell? ⟨b, 1, none⟩ = some v := by rw [Lib.cell_of_heap hbk]; rfl
  go_wp2_with (at_builtin; refine wpList_append_own _ rfl _ _ 74 rfl B 5 i0 (.int .u8 0) 1 1 Tryz.underlying74 hi hz0 hz1 hz2 rfl (by decide) _ _ _ rfl (hown.alloc _) ⟨w1.heap.size, 0, none⟩ 1 1 [.int .u8 c] rfl rfl ?c1 ?c2 ?c3 ?c4 ?c5 ?_)
  case c1 =>
    intro j u hj
    match j, hj with
    | 0, hj => simp at hj; subst hj; simp [Addr.add]
  case c2 => intro u hu; simp at hu; subst hu; rfl
  case c3 => unfold maxLen; omega
  case c4 => omega
  case c5 => have := hb1.size; simp; omega
  intro v' w2 hown' hgrow _
  have hlt : b < w1.heap.size := blk_lt hbk
  have hb2 : w2.heap[b]? = some (.cells #[.pointer (some ⟨b, 0, none⟩), v] 76 (0, 0)) := by
    rw [hgrow.block b (by simp; omega) (fun e => hne e.symm), Lib.alloc_old w1 _ b hlt]
    exact hbk
  have d0 : w2.cell? ⟨b, 0, none⟩ = some (.pointer (some ⟨b, 0, none⟩)) := by rw [Lib.cell_of_heap hb2]; rfl
  have d1 : w2.cell? ⟨b, 1, none⟩ = some v := by rw [Lib.cell_of_heap hb2]; rfl
  have f1 : w2.frozen? ⟨b, 1, none⟩ = false := Lib.frozen_of_heap hb2 1
  obtain ⟨g, cap, rfl⟩ : ∃ g cap, v' = .slice (some ⟨g, 0, none⟩) (bs.length + 1) cap := by
    rcases hown'.2 with ⟨_, h0⟩ | ⟨g, cap, cur, hv, _⟩
    · omega
    · exact ⟨g, cap, hv⟩
  go_wp2
  go_ret
  refine ⟨rfl, ?_, ?_⟩
  · exact Lib.BuilderAt.put (T := 76) (e := 5) hB hb2 (bs' := bs ++ [.int .u8 c]) (by simpa using hown') (by decide)
  · exact ((hb1.alloc (by have := hb1.size; omega) _).grown hgrow (by have := hb1.size; simp; omega) (fun k hk => (hown.lt k hk).1)).setCell (p := ⟨b, 1, none⟩) hB _
end Go.Proofs.YtbmcigakiibncaaGreatDoor.H
namespace Go.Proofs.YtbmcigakiibncaaGreatDoor.H
open Go.RowKit Go.Proofs.YtbmcigakiibncaaGreatDoorW.PrintWords Go.Proofs.YtbmcigakiibncaaGreatDoorW.PrintLast Go.Proofs.YtbmcigakiibncaaGreatDoorW.PrintMore
set_option linter.unusedVariables false
def dg (n : Nat) : List UInt8 := Lib.decDigits n
def ranksT (rk : List Int) : List UInt8 := rk.flatMap fun r => 32 :: dg r.toNat
def needT (x : Nd) : List UInt8 := 32 :: (dg x.f0.toNat ++ 46 :: dg x.f1.toNat)
def headT (q f : Nat) : List UInt8 := dg q ++ 32 :: (dg f ++ [58])
def altT (q f : Nat) (l : List Nd) : List UInt8 := headT q f ++ (l.flatMap needT ++ [10])
def symT (q f : Nat) (a : List (List Nd)) : List UInt8 := a.flatMap (altT q f)
def rowT (q : Nat) : Nat → List (List (List Nd)) → List UInt8
  | _, [] => []
  | f, a :: r => symT q f a ++ rowT q (f + 1) r
def movT : Nat → Mv → List UInt8
  | _, [] => []
  | q, row :: r => rowT q 0 row ++ movT (q + 1) r
def tRanks : List UInt8 := [114, 97, 110, 107, 115]
def tStates : List UInt8 := [10, 115, 116, 97, 116, 101, 115, 32]
def tStart : List UInt8 := [32, 115, 116, 97, 114, 116, 32]
def secT (n st : Nat) : List UInt8 := tStates ++ (dg n ++ (tStart ++ (dg st ++ [10])))
def putL (rk : List Int) (st : Int) (M : Mv) : List UInt8 := tRanks ++ (ranksT rk ++ (secT M.length st.toNat ++ movT 0 M))
def putR (rk : List Int) (st : Int) (M : Mv) : List UInt8 × Int := if auB rk st M then (if 65536 < (putL rk st M).length then ([], 3) else (putL rk st M, 0)) else ([], 10)
theorem dg_len {n : Nat} (h : n < 100) : (dg n).length ≤ 2 := by
  have : ((List.range 100).all fun i => decide ((dg i).length ≤ 2)) = true := by kernel_rfl
  exact of_decide_eq_true (List.all_eq_true.1 this n (List.mem_range.2 h))
theorem flatMap_len {α : Type} {f : α → List UInt8} {c : Nat} (l : List α) (h : ∀ x ∈ l, (f x).length ≤ c) : (l.flatMap f).length ≤ l.length * c := by
  induction l with
  | nil => simp
  | cons a r ih =>
    rw [List.flatMap_cons, List.length_append, List.length_cons, Nat.succ_mul]
    have := h a (List.mem_cons_self ..)
    have := ih (fun x hx => h x (List.mem_cons_of_mem _ hx))
    omega
theorem rowT_len {q c : Nat} (row : List (List (List Nd))) : ∀ f, (∀ f' a, a ∈ row → f' < f + row.length → (symT q f' a).length ≤ c) → (rowT q f row).length ≤ row.length * c := by
  induction row with
  | nil => intro f _; simp [rowT]
  | cons a r ih =>
    intro f h
    rw [rowT, List.length_append, List.length_cons, Nat.succ_mul]
    have h1 := h f a (List.mem_cons_self ..) (by simp)
    have h2 := ih (f + 1) (fun f' a' ha hf => h f' a' (List.mem_cons_of_mem _ ha) (by rw [List.length_cons]; omega))
    omega
theorem movT_len {c : Nat} (M : Mv) : ∀ q, (∀ q' row, row ∈ M → q' < q + M.length → (rowT q' 0 row).length ≤ c) → (movT q M).length ≤ M.length * c := by
  induction M with
  | nil => intro q _; simp [movT]
  | cons a r ih =>
    intro q h
    rw [movT, List.length_append, List.length_cons, Nat.succ_mul]
    have h1 := h q a (List.mem_cons_self ..) (by simp)
    have h2 := ih (q + 1) (fun f' a' ha hf => h f' a' (List.mem_cons_of_mem _ ha) (by rw [List.length_cons]; omega))
    omega
structure AuOk (rk : List Int) (st : Int) (M : Mv) : Prop where
  nrk : rk.length ≤ 24
  rks : ∀ r ∈ rk, 0 ≤ r ∧ r ≤ 4
  nM1 : 1 ≤ M.length
  nM : M.length ≤ 6
  st0 : 0 ≤ st
  st1 : st < (M.length : Int)
  row : ∀ row ∈ M, row.length = rk.length
  alts : ∀ row ∈ M, ∀ a ∈ row, a.length ≤ 12
  lens : ∀ row ∈ M, ∀ a ∈ row, ∀ l ∈ a, l.length ≤ 24
  nds : ∀ row ∈ M, ∀ a ∈ row, ∀ l ∈ a, ∀ x ∈ l, 0 ≤ x.f0 ∧ x.f0 < 4 ∧ 0 ≤ x.f1 ∧ x.f1 < 6
theorem mem_getD {α : Type} {l : List α} {a d : α} (h : a ∈ l) : ∃ i, i < l.length ∧ l.getD i d = a := by
  obtain ⟨i, hi, he⟩ := List.mem_iff_getElem.1 h
  exact ⟨i, hi, by rw [List.getD_eq_getElem?_getD, List.getElem?_eq_getElem hi]; exact he⟩
theorem auOk {rk : List Int} {st : Int} {M : Mv} (h : auB rk st M = true) : AuOk rk st M := by
  unfold auB at h
  simp only [Bool.and_eq_true, decide_eq_true_eq] at h
  obtain ⟨⟨⟨⟨⟨h1, h2⟩, h3⟩, h4⟩, h5⟩, h6⟩ := h
  unfold ranksB at h1
  simp only [Bool.and_eq_true, decide_eq_true_eq, List.all_eq_true] at h1
  have hrow : ∀ row ∈ M, row.length = rk.length ∧ ∀ a ∈ row, ∃ r : Int, r ≤ 4 ∧ altsOk r (M.length : Int) a = true := by
    intro row hr
    have h7 := List.all_eq_true.1 h6 row hr
    unfold mrowOk at h7
    simp only [Bool.and_eq_true, decide_eq_true_eq, List.all_eq_true, List.mem_range] at h7
    refine ⟨h7.1, fun a ha => ?_⟩
    obtain ⟨f, hf, e⟩ := mem_getD (d := []) ha
    have h8 := h7.2 f (by omega)
    rw [e] at h8
    refine ⟨_, ?_, h8⟩
    exact (h1.1 _ (rd_mem (by omega))).2
  have hl : ∀ row ∈ M, ∀ a ∈ row, a.length ≤ 12 ∧ ∀ l ∈ a, l.length ≤ 24 ∧ ∀ x ∈ l, 0 ≤ x.f0 ∧ x.f0 < 4 ∧ 0 ≤ x.f1 ∧ x.f1 < 6 := by
    intro row hr a ha
    obtain ⟨r, hr4, h8⟩ := (hrow row hr).2 a ha
    unfold altsOk at h8
    simp only [Bool.and_eq_true, decide_eq_true_eq, List.all_eq_true] at h8
    refine ⟨h8.1.1, fun l hl => ?_⟩
    have h9 := h8.1.2 l hl
    unfold listOk at h9
    simp only [Bool.and_eq_true, decide_eq_true_eq, Bool.not_eq_true'] at h9
    refine ⟨h9.1.1, fun x hx => ?_⟩
    have h10 : nbad r (M.length : Int) x = false := by
      cases hb : nbad r (M.length : Int) x with
      | false => rfl
      | true => have := List.any_eq_true.2 ⟨x, hx, hb⟩; rw [h9.1.2] at this; cases this
    unfold nbad at h10
    simp only [Bool.or_eq_false_iff, decide_eq_false_iff_not] at h10
    omega
  exact ⟨by omega, fun r hr => h1.1 r hr, by omega, by omega, h4, h5, fun row hr => (hrow row hr).1, fun row hr a ha => (hl row hr a ha).1, fun row hr a ha l hl' => ((hl row hr a ha).2 l hl').1, fun row hr a ha l hl' => ((hl row hr a ha).2 l hl').2⟩
theorem putL_len {rk : List Int} {st : Int} {M : Mv} (h : AuOk rk st M) : (putL rk st M).length ≤ 1000000 := by
  have h1 : (ranksT rk).length ≤ rk.length * 3 := flatMap_len _ (fun r hr => by have := h.rks r hr; have := dg_len (n := r.toNat) (by omega); rw [List.length_cons]; omega)
  have h2 : (movT 0 M).length ≤ M.length * 100000 := movT_len M 0 (fun q row hr hq => by
    have h3 : (rowT q 0 row).length ≤ row.length * 2400 := rowT_len row 0 (fun f a ha hf => by
      have h4 : (symT q f a).length ≤ a.length * 200 := flatMap_len _ (fun l hl => by
        have h5 : (l.flatMap needT).length ≤ l.length * 6 := flatMap_len _ (fun x hx => by
          have h6 := h.nds row hr a ha l hl x hx
          have := dg_len (n := x.f0.toNat) (by omega); have := dg_len (n := x.f1.toNat) (by omega)
          unfold needT; simp only [List.length_cons, List.length_append]; omega)
        have h7 := h.lens row hr a ha l hl
        have := h.nM; have := h.nrk; have := h.row row hr
        have := dg_len (n := q) (by omega); have := dg_len (n := f) (by omega)
        unfold altT headT; simp only [List.length_cons, List.length_append, List.length_nil]; omega)
      have := h.alts row hr a ha
      omega)
    have := h.row row hr; have := h.nrk
    omega)
  have := h.nrk; have := h.nM; have := h.st1
  have := dg_len (n := M.length) (by omega); have := dg_len (n := st.toNat) (by omega)
  unfold putL secT tRanks tStates tStart; simp only [List.length_cons, List.length_append, List.length_nil]; omega
theorem movT_drop {M : Mv} {q : Nat} (h : q < M.length) : movT q (M.drop q) = rowT q 0 (M.getD q []) ++ movT (q + 1) (M.drop (q + 1)) := by
  rw [List.drop_eq_getElem_cons h, movT]
  simp [List.getD_eq_getElem?_getD, h]
theorem rowT_drop {q f : Nat} {row : List (List (List Nd))} (h : f < row.length) : rowT q f (row.drop f) = symT q f (row.getD f []) ++ rowT q (f + 1) (row.drop (f + 1)) := by
  rw [List.drop_eq_getElem_cons h, rowT]
  simp [List.getD_eq_getElem?_getD, h]
theorem flatMap_drop {α : Type} {g : α → List UInt8} {l : List α} {d : α} {i : Nat} (h : i < l.length) : (l.drop i).flatMap g = g (l.getD i d) ++ (l.drop (i + 1)).flatMap g := by
  rw [List.drop_eq_getElem_cons h, List.flatMap_cons]
  simp [List.getD_eq_getElem?_getD, h]
theorem bb_below {B b : Nat} {l : List UInt8} {W W1 : World} (h : BB B b l W) (hb : Below W.heap.size W W1) : BB B b l W1 := by
  have key : ∀ p, Lib.BuilderAt 76 5 B b p (Lib.byteCells l) W → Lib.BuilderAt 76 5 B b p (Lib.byteCells l) W1 := by
    rintro p ⟨h1, v, h2, h3, h4⟩
    exact ⟨h1, v, blk_below h2 hb, own_move h3 (fun k hk => hb.block k (own_lt h3 k hk)), h4⟩
  exact h.imp (key _) (key _)
theorem byteCells_app (a b : List UInt8) : Lib.byteCells (a ++ b) = Lib.byteCells a ++ Lib.byteCells b := by unfold Lib.byteCells; simp
theorem byteCells_len (a : List UInt8) : (Lib.byteCells a).length = a.length := by unfold Lib.byteCells; simp
theorem strCells_eq (s : ByteArray) : Lib.strCells s = Lib.byteCells s.data.toList := by
  unfold Lib.strCells Lib.byteCells
  rfl
structure PB (w : World) (b : Nat) (x y z : Value) (acc : List UInt8) (W : World) : Prop where
  hb : Below w.heap.size w W
  box : W.heap[w.heap.size]? = some (.cells #[x, y, z] 25 (0, 0))
  hlt : w.heap.size < b
  bb : BB b b acc W
  hbw : b ≤ W.heap.size
theorem PB.write {w W W1 : World} {b : Nat} {x y z : Value} {acc acc1 : List UInt8} (h : PB w b x y z acc W) (hb : Below b W W1) (hB : BB b b acc1 W1) : PB w b x y z acc1 W1 :=
  ⟨Below.trans h.hb (Below.mono hb (Nat.le_of_lt h.hlt)), (hb.block _ h.hlt).trans h.box, h.hlt, hB, Nat.le_trans h.hbw hb.size⟩
theorem PB.below {w W W1 : World} {b : Nat} {x y z : Value} {acc : List UInt8} (h : PB w b x y z acc W) (hb : Below W.heap.size W W1) : PB w b x y z acc W1 :=
  ⟨below_then h.hb h.hb.size hb, blk_below h.box hb, h.hlt, bb_below h.bb hb, Nat.le_trans h.hbw hb.size⟩
theorem ws_calls (b : Nat) (l : List UInt8) (s : ByteArray) (t : List UInt8) (w : World) (h : BB b b l w) (ht : s.data.toList = t) (hlen : l.length + t.length ≤ 140737488355328) (hBw : b ≤ w.heap.size) :
    Calls Tryz.prog 52 #[.pointer (some ⟨b, 0, none⟩), .string s] w fun e w' => e = .returned (.tuple #[.int .i64 s.size, .nilIface]) ∧ BB b b (l ++ t) w' ∧ Below b w w' := by
  refine (wstr_calls b b _ s w h (by rw [byteCells_len, Lib.size_eq, ht]; exact hlen) hBw).mono ?_
  rintro e w' ⟨rfl, h1, h2⟩
  refine ⟨rfl, .inr ?_, h2⟩
  rw [byteCells_app, ← ht, ← strCells_eq]
  exact h1
theorem wb_calls (b : Nat) (l : List UInt8) (w : World) (h : BB b b l w) (hlen : l.length + 1 ≤ 140737488355328) (hBw : b ≤ w.heap.size) :
    Calls Tryz.prog 54 #[.pointer (some ⟨b, 0, none⟩), .int .u8 10] w fun e w' => e = .returned .nilIface ∧ BB b b (l ++ [10]) w' ∧ Below b w w' := by
  refine (wbyte_calls b b _ 10 w h (by rw [byteCells_len]; exact hlen) hBw).mono ?_
  rintro e w' ⟨rfl, h1, h2⟩
  refine ⟨rfl, .inr ?_, h2⟩
  rw [byteCells_app]
  exact h1
theorem itoa_calls (n : Int) (h0 : 0 ≤ n) (h1 : n < 100) (w : World) : Calls Tryz.prog 53 #[.int .i64 n] w fun e w' => e = .returned (.string ⟨(dg n.toNat).toArray⟩) ∧ w' = w := by
  obtain ⟨k, rfl⟩ := Int.eq_ofNat_of_zero_le h0
  exact Tryz.strconv_Itoa_small k (by omega) w
end Go.Proofs.YtbmcigakiibncaaGreatDoor.H
namespace Go.Proofs.YtbmcigakiibncaaGreatDoor.H
open Go.RowKit Go.Proofs.YtbmcigakiibncaaGreatDoorW.PrintWords Go.Proofs.YtbmcigakiibncaaGreatDoorW.PrintLast Go.Proofs.YtbmcigakiibncaaGreatDoorW.PrintMore
set_option linter.unusedVariables false
set_option linter.unusedSimpArgs false
structure GH (w W : World) (x y z : Value) : Prop where
  hb : Below w.heap.size w W
  ha : W.heap[w.heap.size]? = some (.cells #[x, y, z] 25 (0, 0))
  he : W.heap[w.heap.size + 1]? = some (.cells #[.int .i64 0] 29 (0, 0))
theorem GH.start (w : World) : GH w ((w.alloc (.cells #[.slice none 0 0, .int .i64 0, .slice none 0 0] 25)).alloc (.cells #[.int .i64 0] 29)) (.slice none 0 0) (.int .i64 0) (.slice none 0 0) :=
  ⟨below_alloc (below_alloc (Below.refl _ _) _) _, blk_alloc (blk_new w _) _, blk_at2 w _ _⟩
theorem GH.below {w W W1 : World} {x y z : Value} (h : GH w W x y z) (hb : Below W.heap.size W W1) : GH w W1 x y z := ⟨below_then h.hb h.hb.size hb, blk_below h.ha hb, blk_below h.he hb⟩
theorem GH.grown {w W W1 : World} {x y z : Value} (h : GH w W x y z) {row : Option Nat} (hb : Below w.heap.size w W1) (hg : W.grownBy W1 row) (hne : ∀ k, row = some k → w.heap.size + 2 ≤ k) : GH w W1 x y z :=
  ⟨hb, blk_grown h.ha hg (fun e => by have := hne _ e.symm; omega), blk_grown h.he hg (fun e => by have := hne _ e.symm; omega)⟩
theorem GH.cells {w W : World} {x y z : Value} (h : GH w W x y z) : W.cell? ⟨w.heap.size, 0, none⟩ = some x ∧ W.cell? ⟨w.heap.size, 1, none⟩ = some y ∧ W.cell? ⟨w.heap.size, 2, none⟩ = some z ∧ W.cell? ⟨w.heap.size + 1, 0, none⟩ = some (.int .i64 0) :=
  ⟨(blk_cell h.ha 0).trans rfl, (blk_cell h.ha 1).trans rfl, (blk_cell h.ha 2).trans rfl, (blk_cell h.he 0).trans rfl⟩
theorem GH.frozen {w W : World} {x y z : Value} (h : GH w W x y z) : W.frozen? ⟨w.heap.size, 0, none⟩ = false ∧ W.frozen? ⟨w.heap.size, 1, none⟩ = false ∧ W.frozen? ⟨w.heap.size, 2, none⟩ = false ∧ W.frozen? ⟨w.heap.size + 1, 0, none⟩ = false :=
  ⟨blk_frozen h.ha 0, blk_frozen h.ha 1, blk_frozen h.ha 2, blk_frozen h.he 0⟩
theorem GH.set0 {w W : World} {x y z : Value} (h : GH w W x y z) (u : Value) : GH w (W.setCell ⟨w.heap.size, 0, none⟩ u) u y z := ⟨h.hb.setCell (p := ⟨w.heap.size, 0, none⟩) (Nat.le_refl _) _, blk_set h.ha 0 u, blk_far h.he (by show w.heap.size + 1 ≠ w.heap.size; omega) _⟩
theorem GH.set1 {w W : World} {x y z : Value} (h : GH w W x y z) (u : Value) : GH w (W.setCell ⟨w.heap.size, 1, none⟩ u) x u z := ⟨h.hb.setCell (p := ⟨w.heap.size, 1, none⟩) (Nat.le_refl _) _, blk_set h.ha 1 u, blk_far h.he (by show w.heap.size + 1 ≠ w.heap.size; omega) _⟩
theorem GH.set2 {w W : World} {x y z : Value} (h : GH w W x y z) (u : Value) : GH w (W.setCell ⟨w.heap.size, 2, none⟩ u) x y u := ⟨h.hb.setCell (p := ⟨w.heap.size, 2, none⟩) (Nat.le_refl _) _, blk_set h.ha 2 u, blk_far h.he (by show w.heap.size + 1 ≠ w.heap.size; omega) _⟩
theorem run_mkfun9 (fn : Fn) (first cap : Array Value) (w : World) : (Instr.makeFunc fn first cap).run Tryz.prog w = .ok (.func fn first cap) w := rfl
theorem getE_zero {t : ByteArray} {w W : World} {e : Int} (h : getR t = (e, [], 0, [])) (hb : Below w.heap.size w W) : GetE t w (.returned (.tuple #[.agg #[.slice none 0 0, .int .i64 0, .slice none 0 0], .int .i64 e])) W := by
  unfold GetE
  rw [h]
  exact ⟨none, 0, none, 0, rfl, ⟨rfl, by simp, fun h => absurd h (by simp)⟩, Nat.le_refl _, ⟨rfl, by simp, fun h => absurd h (by simp)⟩, Nat.le_refl _, hb⟩
theorem get_panic {t : ByteArray} {w W : World} {x y z : Value} (h : getR t = (4, [], 0, [])) (hG : GH w W x y z) (tm : Array Value) (h2 : tm[2]? = some (.pointer (some ⟨w.heap.size, 0, none⟩))) (h3 : tm[3]? = some (.pointer (some ⟨w.heap.size + 1, 0, none⟩))) :
    bodyPostD Tryz.prog Tryz.f26 (GetE t w) (Exit.panic [{ v := .iface 89 (.agg #[]), recovered := false }]) { tmps := tm, defers := [{ target := .fn (.func 58) #[.pointer (some ⟨w.heap.size, 0, none⟩), .pointer (some ⟨w.heap.size + 1, 0, none⟩)], args := #[] }] } W := by
  refine leaves_cons (f := 58) (args := #[.pointer (some ⟨w.heap.size, 0, none⟩), .pointer (some ⟨w.heap.size + 1, 0, none⟩)]) (by simp) (by simp [go_sem]) ?_
  refine (catch_bad w.heap.size x y z _ W hG.ha hG.he).mono ?_
  rintro e u' w'' ⟨rfl, rfl, h0, h1, hb⟩
  have k0 : w''.cell? ⟨w.heap.size, 0, none⟩ = some (.slice none 0 0) := (blk_cell h0 0).trans rfl
  have k1 : w''.cell? ⟨w.heap.size, 1, none⟩ = some (.int .i64 0) := (blk_cell h0 1).trans rfl
  have k2 : w''.cell? ⟨w.heap.size, 2, none⟩ = some (.slice none 0 0) := (blk_cell h0 2).trans rfl
  have k3 : w''.cell? ⟨w.heap.size + 1, 0, none⟩ = some (.int .i64 4) := (blk_cell h1 0).trans rfl
  have hE := getE_zero (w := w) (W := w'') h (Below.trans hG.hb hb)
  simp [Leaves, settle, results, Tryz.results26, go_sem, h2, h3, k0, k1, k2, k3]
  exact hE
theorem get_done {t : ByteArray} {w W : World} {A1 A2 : Option Addr} {c1 c2 : Nat} {rk : List Int} {st : Int} {M : Mv} {e : Int} (h : getR t = (e, rk, st, M)) (hG : Below w.heap.size w W)
    (h0 : W.heap[w.heap.size]? = some (.cells #[.slice A1 rk.length c1, .int .i64 st, .slice A2 M.length c2] 25 (0, 0))) (h1 : W.heap[w.heap.size + 1]? = some (.cells #[.int .i64 e] 29 (0, 0)))
    (hr : Kd.C (Kd.int .i64) W A1 rk.length rk) (hrc : rk.length ≤ c1) (hM : Kd.C kA3 W A2 M.length M) (hMc : M.length ≤ c2)
    (tm : Array Value) (h2 : tm[2]? = some (.pointer (some ⟨w.heap.size, 0, none⟩))) (h3 : tm[3]? = some (.pointer (some ⟨w.heap.size + 1, 0, none⟩))) :
    bodyPostD Tryz.prog Tryz.f26 (GetE t w) Exit.ret { tmps := tm, defers := [{ target := .fn (.func 58) #[.pointer (some ⟨w.heap.size, 0, none⟩), .pointer (some ⟨w.heap.size + 1, 0, none⟩)], args := #[] }] } W := by
  refine leaves_cons (f := 58) (args := #[.pointer (some ⟨w.heap.size, 0, none⟩), .pointer (some ⟨w.heap.size + 1, 0, none⟩)]) (by simp) (by simp [go_sem]) ?_
  refine (catch_idle _ _ W).mono ?_
  rintro e' u' w'' ⟨rfl, rfl, rfl⟩
  have k0 : w''.cell? ⟨w.heap.size, 0, none⟩ = some (.slice A1 rk.length c1) := (blk_cell h0 0).trans rfl
  have k1 : w''.cell? ⟨w.heap.size, 1, none⟩ = some (.int .i64 st) := (blk_cell h0 1).trans rfl
  have k2 : w''.cell? ⟨w.heap.size, 2, none⟩ = some (.slice A2 M.length c2) := (blk_cell h0 2).trans rfl
  have k3 : w''.cell? ⟨w.heap.size + 1, 0, none⟩ = some (.int .i64 e) := (blk_cell h1 0).trans rfl
  have hE : GetE t w (.returned (.tuple #[.agg #[.slice A1 rk.length c1, .int .i64 st, .slice A2 M.length c2], .int .i64 e])) w'' := by
    unfold GetE
    rw [h]
    exact ⟨A1, _, A2, _, rfl, hr, hrc, hM, hMc, hG⟩
  simp [Leaves, settle, results, Tryz.results26, go_sem, h2, h3, k0, k1, k2, k3]
  exact hE
theorem get_ret0 {t : ByteArray} {w W : World} {e : Int} (h : getR t = (e, [], 0, [])) (hG : Below w.heap.size w W)
    (h0 : W.heap[w.heap.size]? = some (.cells #[.slice none 0 0, .int .i64 0, .slice none 0 0] 25 (0, 0))) (h1 : W.heap[w.heap.size + 1]? = some (.cells #[.int .i64 e] 29 (0, 0)))
    (tm : Array Value) (h2 : tm[2]? = some (.pointer (some ⟨w.heap.size, 0, none⟩))) (h3 : tm[3]? = some (.pointer (some ⟨w.heap.size + 1, 0, none⟩))) :
    bodyPostD Tryz.prog Tryz.f26 (GetE t w) Exit.ret { tmps := tm, defers := [] } W := by
  have k0 : W.cell? ⟨w.heap.size, 0, none⟩ = some (.slice none 0 0) := (blk_cell h0 0).trans rfl
  have k1 : W.cell? ⟨w.heap.size, 1, none⟩ = some (.int .i64 0) := (blk_cell h0 1).trans rfl
  have k2 : W.cell? ⟨w.heap.size, 2, none⟩ = some (.slice none 0 0) := (blk_cell h0 2).trans rfl
  have k3 : W.cell? ⟨w.heap.size + 1, 0, none⟩ = some (.int .i64 e) := (blk_cell h1 0).trans rfl
  have hE := getE_zero h hG
  simp [bodyPostD, Leaves, settle, results, Tryz.results26, go_sem, h2, h3, k0, k1, k2, k3]
  exact hE
end Go.Proofs.YtbmcigakiibncaaGreatDoor.H
namespace Go.Proofs.YtbmcigakiibncaaGreatDoor.H
open Go.RowKit Go.Proofs.YtbmcigakiibncaaGreatDoorW.PrintWords Go.Proofs.YtbmcigakiibncaaGreatDoorW.PrintLast Go.Proofs.YtbmcigakiibncaaGreatDoorW.PrintMore
set_option linter.unusedVariables false
set_option linter.unusedSimpArgs false
theorem strs_cell {W : World} {b : Nat} {L : List ByteArray} {x : Nat × Nat} (h : W.heap[b]? = some (.cells (L.map Value.string).toArray 9 x)) {i : Nat} (hi : i < L.length) : W.cell? ⟨b, i, none⟩ = some (.string (L.getD i ByteArray.empty)) := by
  rw [Lib.cell_of_heap h]
  simp [List.getD_eq_getElem?_getD, hi]
theorem getR_bad {t : ByteArray} (hs : t.size ≤ 65536) (h : getV t = none) : getR t = (4, [], 0, []) := by unfold getR; rw [if_neg (by omega), h]
theorem splitB_size (sep : ByteArray) : ∀ (k : Nat) (s : ByteArray), ∀ x ∈ Lib.splitB sep 0 k s, x.size ≤ s.size
  | 0, s, x, hx => by rw [Lib.splitB_zero, List.mem_singleton] at hx; rw [hx]; exact Nat.le_refl _
  | k + 1, s, x, hx => by
    unfold Lib.splitB at hx
    split at hx
    · rw [List.mem_singleton] at hx; rw [hx]; exact Nat.le_refl _
    · rcases List.mem_cons.1 hx with rfl | hx
      · rw [ByteArray.size_extract]; omega
      · have := splitB_size sep k _ x hx
        rw [ByteArray.size_extract] at this; omega
theorem chunk_size (s : ByteArray) (c : UInt8) (i : Nat) : ((chunks s c).getD i ByteArray.empty).size ≤ s.size := by
  by_cases hi : i < (chunks s c).length
  · rw [List.getD_eq_getElem?_getD, List.getElem?_eq_getElem hi]
    exact splitB_size _ _ _ _ (List.getElem_mem hi)
  · rw [List.getD_eq_getElem?_getD, List.getElem?_eq_none (by omega)]
    exact Nat.zero_le _
theorem getV_short {t : ByteArray} (h : (chunks t 10).length < 3) : getV t = none := by unfold getV; rw [if_neg (fun x => by omega)]
theorem getV_end {t : ByteArray} (h : (chunks t 10).getD ((chunks t 10).length - 1) ByteArray.empty ≠ ByteArray.empty) : getV t = none := by unfold getV; rw [if_neg (fun x => h x.2)]
theorem getV_first {t : ByteArray} (h : (chunks ((chunks t 10).getD 0 ByteArray.empty) 32).head? ≠ some sRanks) : getV t = none := by
  unfold getV
  by_cases hc : 3 ≤ (chunks t 10).length ∧ (chunks t 10).getD ((chunks t 10).length - 1) ByteArray.empty = ByteArray.empty
  · rw [if_pos hc, if_neg (fun x => h x.1)]
  · rw [if_neg hc]
theorem getD_memB {l : List ByteArray} {i : Nat} (hi : i < l.length) : l.getD i ByteArray.empty ∈ l := by
  rw [List.getD_eq_getElem?_getD, List.getElem?_eq_getElem hi]
  exact List.getElem_mem hi
theorem getV_rank {t : ByteArray} {i : Nat} (hi : i < ((chunks ((chunks t 10).getD 0 ByteArray.empty) 32).drop 1).length) (h : okW (((chunks ((chunks t 10).getD 0 ByteArray.empty) 32).drop 1).getD i ByteArray.empty) = false) : getV t = none := by
  unfold getV
  by_cases hc : 3 ≤ (chunks t 10).length ∧ (chunks t 10).getD ((chunks t 10).length - 1) ByteArray.empty = ByteArray.empty
  · rw [if_pos hc, if_neg (fun x => ?_)]
    have h1 := List.all_eq_true.1 x.2.1 (((chunks ((chunks t 10).getD 0 ByteArray.empty) 32).drop 1).getD i ByteArray.empty) (getD_memB hi)
    rw [h] at h1
    cases h1
  · rw [if_neg hc]
theorem getV_second {t : ByteArray} (h : (chunks ((chunks t 10).getD 1 ByteArray.empty) 32).head? ≠ some sStates) : getV t = none := by
  unfold getV
  by_cases hc : 3 ≤ (chunks t 10).length ∧ (chunks t 10).getD ((chunks t 10).length - 1) ByteArray.empty = ByteArray.empty
  · rw [if_pos hc, if_neg (fun x => h x.2.2.1)]
  · rw [if_neg hc]
theorem getV_sec {t : ByteArray} (h : secOk ((chunks ((chunks t 10).getD 1 ByteArray.empty) 32).drop 1) = false) : getV t = none := by
  unfold getV
  by_cases hc : 3 ≤ (chunks t 10).length ∧ (chunks t 10).getD ((chunks t 10).length - 1) ByteArray.empty = ByteArray.empty
  · rw [if_pos hc, if_neg (fun x => by rw [h] at x; exact absurd x.2.2.2 (by decide))]
  · rw [if_neg hc]
theorem num_nonneg {s : ByteArray} (h : okW s = true) : 0 ≤ valW s ∧ valW s ≤ 1000000000 := by
  unfold okW numOk at h
  simp only [Bool.and_eq_true, Bool.not_eq_true', decide_eq_true_eq] at h
  obtain ⟨n, hn⟩ := atoi_some h.1
  unfold valW
  rw [(num_good h.1).1]
  have := numV_eq hn
  omega
theorem getV_main {t s0 s1 x1 x2 x3 p : ByteArray} {L ws wd : List ByteArray} (hL : chunks t 10 = L) (h3 : 3 ≤ L.length) (hle : L.getD (L.length - 1) ByteArray.empty = ByteArray.empty) (hs0 : L.getD 0 ByteArray.empty = s0) (hws : chunks s0 32 = ws) (hhd : ws.head? = some sRanks) (hwd : ws.drop 1 = wd) (hall : wd.all okW = true)
    (hs1 : L.getD 1 ByteArray.empty = s1) (hws2 : chunks s1 32 = [p, x1, x2, x3]) (hh2 : [p, x1, x2, x3].head? = some sStates) (hx2 : x2 = sStart) (ok1 : okW x1 = true) (ok3 : okW x3 = true) :
    getV t = (gstep (valW x1) wd.length ((L.drop 2).take (L.length - 3)) (-1) (List.replicate (min (valW x1) 7).toNat (List.replicate wd.length []))).map fun M => (wd.map valW, valW x3, M) := by
  unfold getV
  subst hs0 hs1 hwd
  rw [hL, if_pos ⟨h3, hle⟩, hws, hws2, if_pos ⟨hhd, hall, hh2, by show (decide (x2 = sStart) && okW x1 && okW x3) = true; rw [decide_eq_true hx2, ok1, ok3]; rfl⟩]
  simp
theorem made_rep (z : Value) (n : Nat) : madeCells #[z] n = Array.replicate n z := by
  unfold madeCells
  apply Array.ext
  · simp
  · intro i h1 h2
    simp [Nat.mod_one]
theorem R_grown9 {α β : Type} {d : Kd α} {d2 : Kd β} {e e2 b0 b2 : Nat} {w w1 : World} {ok ok2 : Nat → Prop} {v v2 : Value} {xs : List α} {ys : List β} (h : d.R e w b0 ok v xs) (h2 : d2.R e2 w b2 ok2 v2 ys) (he : e ≠ e2) (hE : ∀ q ∈ d.E, q ≠ e2) (hg : w.grownBy w1 v2.ownBlock) : d.R e w1 b0 ok v xs := by
  cases hob : v2.ownBlock with
  | none => exact R_same h (fun k hk hlt => hg.block k hlt (by rw [hob]; exact fun x => by cases x))
  | some b =>
    obtain ⟨⟨cb, hcb⟩, _⟩ := ownBlock_typed h2 hob
    refine R_other h b (fun x => ?_) (fun q hq cells hc => types_ne hc hcb (hE q hq) rfl) (fun k hk hlt => hg.block k hlt (by rw [hob]; exact fun x => hk (Option.some.inj x)))
    obtain ⟨⟨c2, h3⟩, _⟩ := ownBlock_typed h x
    exact types_ne h3 hcb he rfl
structure GL (w W : World) (x y z : Value) (bl : Nat) (L : List ByteArray) : Prop where
  g : GH w W x y z
  l : W.heap[bl]? = some (.cells (L.map Value.string).toArray 9 (0, 0))
  hbl : w.heap.size + 2 ≤ bl
theorem GL.below {w W W1 : World} {x y z : Value} {bl : Nat} {L : List ByteArray} (h : GL w W x y z bl L) (hb : Below W.heap.size W W1) : GL w W1 x y z bl L := ⟨h.g.below hb, blk_below h.l hb, h.hbl⟩
theorem GL.app {w W W1 : World} {x y z : Value} {bl : Nat} {L : List ByteArray} (h : GL w W x y z bl L) {α : Type} {d : Kd α} {e b0 : Nat} {v : Value} {xs : List α} (hR : d.R e W b0 (fun k => w.heap.size + 2 ≤ k) v xs) (he : e ≠ 9) (hb : Below w.heap.size w W1) (hg : W.grownBy W1 v.ownBlock) : GL w W1 x y z bl L :=
  ⟨h.g.grown hb hg (fun k hk => hR.1 k hk), blk_grown h.l hg (fun hk => by obtain ⟨⟨c, hc⟩, _⟩ := ownBlock_typed hR hk.symm; exact types_ne hc h.l he rfl), h.hbl⟩
theorem GL.set0 {w W : World} {x y z : Value} {bl : Nat} {L : List ByteArray} (h : GL w W x y z bl L) (u : Value) : GL w (W.setCell ⟨w.heap.size, 0, none⟩ u) u y z bl L := ⟨h.g.set0 u, blk_far h.l (by have := h.hbl; show bl ≠ w.heap.size; omega) _, h.hbl⟩
theorem GL.set1 {w W : World} {x y z : Value} {bl : Nat} {L : List ByteArray} (h : GL w W x y z bl L) (u : Value) : GL w (W.setCell ⟨w.heap.size, 1, none⟩ u) x u z bl L := ⟨h.g.set1 u, blk_far h.l (by have := h.hbl; show bl ≠ w.heap.size; omega) _, h.hbl⟩
theorem GL.set2 {w W : World} {x y z : Value} {bl : Nat} {L : List ByteArray} (h : GL w W x y z bl L) (u : Value) : GL w (W.setCell ⟨w.heap.size, 2, none⟩ u) x y u bl L := ⟨h.g.set2 u, blk_far h.l (by have := h.hbl; show bl ≠ w.heap.size; omega) _, h.hbl⟩
theorem words_cell {W : World} {b : Nat} {ws : List ByteArray} {o i : Nat} (h : W.heap[b]? = some (.cells (ws.map Value.string).toArray 9 (0, 0))) (hi : i < (ws.drop 1).length) (ho : (ws.drop 1).length = 0 ∨ o = 1) : W.cell? ⟨b, o + i, none⟩ = some (.string ((ws.drop 1).getD i ByteArray.empty)) := by
  obtain rfl : o = 1 := by omega
  rw [strs_cell h (show 1 + i < ws.length by rw [List.length_drop] at hi; omega)]
  simp [List.getD_eq_getElem?_getD, List.getElem?_drop, Nat.add_comm]
theorem MM.at {b0 B : Nat} {W : World} {v : Value} {M : Mv} {m : Nat} {gs : List Nat} {u : Nat → Nat → Value} (h : MM b0 B W v M m gs u) {q f : Nat} (hq : q < M.length) (hf : f < m) :
    ∃ ab cap, v = .slice (some ⟨ab, 0, none⟩) M.length cap ∧ W.cell? ⟨ab, q, none⟩ = some (.slice (some ⟨gs.getD q 0, 0, none⟩) m m) ∧ W.cell? ⟨gs.getD q 0, f, none⟩ = some (u q f) ∧ W.frozen? ⟨gs.getD q 0, f, none⟩ = false ∧ (∃ cs, W.heap[ab]? = some (.cells cs 65 (0, 0))) ∧ (∃ cs, W.heap[gs.getD q 0]? = some (.cells cs 66 (0, 0))) ∧ B ≤ gs.getD q 0 := by
  have hrow := h.rows q hq
  have hR := h.row
  obtain ⟨_, inner, ho, _⟩ := h.row
  have hl := h.len
  rcases ho.2 with ⟨rfl, h0⟩ | ⟨g, cap, cur, rfl, hb, hh, hn, _, _, _⟩
  · omega
  · refine ⟨g, cap, by rw [hl], ?_, (blk_cell hrow.2.1 f).trans (by simp [hf]), blk_frozen hrow.2.1 f, ⟨cur, hh⟩, ⟨_, hrow.2.1⟩, hrow.1⟩
    have hr := Kd.R_reads' hR
    obtain ⟨_, _, h3⟩ := hr.2.2
    obtain ⟨ad, e, hcell⟩ := h3 (by omega)
    injection e with e
    subst e
    obtain ⟨cs, hcs, hK, hx⟩ := hcell q (gs.getD q 0) (by have : q < gs.length := by omega
                                                          simp [List.getD_eq_getElem?_getD, this])
    obtain rfl : cs = [.slice (some ⟨gs.getD q 0, 0, none⟩) m m] := hK
    have := hx 0 _ rfl
    rw [show (Addr.add ⟨g, 0, none⟩ (q * (kRow m).sz + 0)) = ⟨g, q, none⟩ by rw [show (kRow m).sz = 1 from rfl]; simp [Addr.add]; exact fun e => e.symm] at this
    exact this
theorem GL.far {w W : World} {x y z : Value} {bl : Nat} {L : List ByteArray} (h : GL w W x y z bl L) {a j : Nat} (ha : w.heap.size + 2 ≤ a) (hne : bl ≠ a) (u : Value) : GL w (W.setCell ⟨a, j, none⟩ u) x y z bl L :=
  ⟨⟨h.g.hb.setCell (p := ⟨a, j, none⟩) (by show w.heap.size ≤ a; omega) _, blk_far h.g.ha (by show w.heap.size ≠ a; omega) _, blk_far h.g.he (by show w.heap.size + 1 ≠ a; omega) _⟩, blk_far h.l hne _, h.hbl⟩
end Go.Proofs.YtbmcigakiibncaaGreatDoor.H
namespace Go.Proofs.YtbmcigakiibncaaGreatDoor.H
open Go.RowKit Go.Proofs.YtbmcigakiibncaaGreatDoorW.PrintWords Go.Proofs.YtbmcigakiibncaaGreatDoorW.PrintLast Go.Proofs.YtbmcigakiibncaaGreatDoorW.PrintMore
set_option linter.unusedVariables false
set_option linter.unusedSimpArgs false
def tabT21 : Bool × List (List Nat × List Nat) := (true, [([], []), ([0], [0]), ([1], [1]), ([], []), ([3], [3]), ([2, 4], [2, 4]), ([], []), ([6, 5, 2, 0, 1, 2, 3, 4, 5, 6], [5, 6])])
theorem tab21 : rtab .any (opsOf Tryz.f21 4) = tabT21 := by kernel_rfl
theorem bits21 : waitsOk tabT21.2 [0, 1, 3, 0, 8, 31, 0, 127] = true := by kernel_rfl
theorem clone_calls (A : Option Addr) (c : Nat) (rk : List Int) (w : World) (hr : Kd.C (Kd.int .i64) w A rk.length rk) (hn : rk.length ≤ 24) :
    Calls Tryz.prog 49 #[.slice A rk.length c] w fun e w' => ∃ v', e = .returned v' ∧ Kd.R (Kd.int .i64) 3 w' w.heap.size (fun k => w.heap.size ≤ k) v' rk ∧ Below w.heap.size w w' := by
  have key : ∀ (v : Value) (w' : World), w'.ownsRow w.heap.size 3 1 v rk.length (rk.map (Value.int .i64)) → Kd.R (Kd.int .i64) 3 w' w.heap.size (fun k => w.heap.size ≤ k) v rk := fun v w' h =>
    Kd.R_of_own h (fun k hk => (h.lt k hk).1)
  cases A with
  | none =>
    refine (Tryz.slices_Clone_int_nil rk.length c w).mono ?_
    rintro e w' ⟨rfl, rfl⟩
    have h0 : rk = [] := by
      cases rk with
      | nil => rfl
      | cons a r => obtain ⟨ad, e, _⟩ := Kd.at_int hr 0 (by omega) (by simp); cases e
    subst h0
    exact ⟨_, rfl, Kd.R_nil _ _ _ _ _, Below.refl _ _⟩
  | some ad =>
    by_cases h0 : rk.length = 0
    · obtain rfl : rk = [] := List.length_eq_zero_iff.1 h0
      refine (Any.slices_Clone_int_zero Tryz.laysNm215 ad c w).mono ?_
      rintro e w' ⟨v', rfl, ho, _, hb⟩
      exact ⟨v', rfl, key v' w' ho, hb⟩
    · have hcell : ∀ j, j < rk.length → w.cell? (ad.add j) = some (.int .i64 (rk.getD j 0)) := by
        intro j hj
        obtain ⟨ad2, e, hk⟩ := Kd.at_int hr (j : Int) (by omega) (by omega)
        injection e with e
        subst e
        rw [Int.toNat_natCast] at hk
        rw [hk]
        simp [rd]
      have hsp : ad.spot = none := by
        have h1 := hcell 0 (by omega)
        rw [show ad.add 0 = ad by unfold Addr.add; simp] at h1
        unfold World.cell? at h1
        split at h1
        · split at h1
          · cases h1
          · rename_i hn; simpa using hn
        · cases h1
      obtain ⟨b, off, sp⟩ := ad
      obtain rfl : sp = none := hsp
      refine (Tryz.slices_Clone_int b off rk.length c rk w (Nat.le_refl _) (by omega) (fun j hj => by
        have := hcell j hj
        rwa [show (Addr.add ⟨b, off, none⟩ j) = ⟨b, off + j, none⟩ by unfold Addr.add; split <;> simp_all] at this)).mono ?_
      rintro e w' ⟨v', rfl, ho, _, hb⟩
      rw [List.take_length] at ho
      exact ⟨v', rfl, key v' w' ho, hb⟩
structure DW (w W : World) (a0 a1 a2 r0 r1 r2 : Value) : Prop where
  hb : Below w.heap.size w W
  h1 : W.heap[w.heap.size]? = some (.cells #[a0, a1, a2] 25 (0, 0))
  h2 : W.heap[w.heap.size + 1]? = some (.cells #[r0, r1, r2] 25 (0, 0))
theorem DW.start (w : World) (a0 a1 a2 : Value) : DW w ((w.alloc (.cells #[a0, a1, a2] 25)).alloc (.cells #[.slice none 0 0, .int .i64 0, .slice none 0 0] 25)) a0 a1 a2 (.slice none 0 0) (.int .i64 0) (.slice none 0 0) :=
  ⟨below_alloc (below_alloc (Below.refl _ _) _) _, blk_alloc (blk_new w _) _, blk_at2 w _ _⟩
theorem DW.below {w W W1 : World} {a0 a1 a2 r0 r1 r2 : Value} (h : DW w W a0 a1 a2 r0 r1 r2) (hb : Below W.heap.size W W1) : DW w W1 a0 a1 a2 r0 r1 r2 := ⟨below_then h.hb h.hb.size hb, blk_below h.h1 hb, blk_below h.h2 hb⟩
theorem DW.cells {w W : World} {a0 a1 a2 r0 r1 r2 : Value} (h : DW w W a0 a1 a2 r0 r1 r2) : W.cell? ⟨w.heap.size, 0, none⟩ = some a0 ∧ W.cell? ⟨w.heap.size, 1, none⟩ = some a1 ∧ W.cell? ⟨w.heap.size, 2, none⟩ = some a2 :=
  ⟨(blk_cell h.h1 0).trans rfl, (blk_cell h.h1 1).trans rfl, (blk_cell h.h1 2).trans rfl⟩
theorem DW.rcells {w W : World} {a0 a1 a2 r0 r1 r2 : Value} (h : DW w W a0 a1 a2 r0 r1 r2) : (W.cell? ⟨w.heap.size + 1, 0, none⟩ = some r0 ∧ W.cell? ⟨w.heap.size + 1, 1, none⟩ = some r1 ∧ W.cell? ⟨w.heap.size + 1, 2, none⟩ = some r2) ∧ W.frozen? ⟨w.heap.size + 1, 0, none⟩ = false ∧ W.frozen? ⟨w.heap.size + 1, 1, none⟩ = false ∧ W.frozen? ⟨w.heap.size + 1, 2, none⟩ = false :=
  ⟨⟨(blk_cell h.h2 0).trans rfl, (blk_cell h.h2 1).trans rfl, (blk_cell h.h2 2).trans rfl⟩, blk_frozen h.h2 0, blk_frozen h.h2 1, blk_frozen h.h2 2⟩
theorem DW.far {w W : World} {a0 a1 a2 r0 r1 r2 : Value} (h : DW w W a0 a1 a2 r0 r1 r2) {a j : Nat} (ha : w.heap.size + 2 ≤ a) (u : Value) : DW w (W.setCell ⟨a, j, none⟩ u) a0 a1 a2 r0 r1 r2 :=
  ⟨h.hb.setCell (p := ⟨a, j, none⟩) (by show w.heap.size ≤ a; omega) _, blk_far h.h1 (by show w.heap.size ≠ a; omega) _, blk_far h.h2 (by show w.heap.size + 1 ≠ a; omega) _⟩
theorem DW.grown {w W W1 : World} {a0 a1 a2 r0 r1 r2 : Value} (h : DW w W a0 a1 a2 r0 r1 r2) {row : Option Nat} (hb : Below w.heap.size w W1) (hg : W.grownBy W1 row) (hne : ∀ k, row = some k → w.heap.size + 2 ≤ k) : DW w W1 a0 a1 a2 r0 r1 r2 :=
  ⟨hb, blk_grown h.h1 hg (fun e => by have := hne _ e.symm; omega), blk_grown h.h2 hg (fun e => by have := hne _ e.symm; omega)⟩
def put3 (W : World) (g : Nat) (x y z : Value) : World := ((W.setCell ⟨g, 0, none⟩ x).setCell ⟨g, 1, none⟩ y).setCell ⟨g, 2, none⟩ z
theorem DW.put {w W : World} {a0 a1 a2 r0 r1 r2 : Value} (h : DW w W a0 a1 a2 r0 r1 r2) (x y z : Value) : DW w (put3 W (w.heap.size + 1) x y z) a0 a1 a2 x y z :=
  ⟨((h.hb.setCell (p := ⟨w.heap.size + 1, 0, none⟩) (Nat.le_succ _) _).setCell (p := ⟨w.heap.size + 1, 1, none⟩) (Nat.le_succ _) _).setCell (p := ⟨w.heap.size + 1, 2, none⟩) (Nat.le_succ _) _,
    blk_far (blk_far (blk_far h.h1 (by show w.heap.size ≠ w.heap.size + 1; omega) _) (by show w.heap.size ≠ w.heap.size + 1; omega) _) (by show w.heap.size ≠ w.heap.size + 1; omega) _,
    blk_set (blk_set (blk_set h.h2 0 x) 1 y) 2 z⟩
theorem put3_heap (W : World) (g : Nat) (x y z : Value) (k : Nat) (h : k ≠ g) : (put3 W g x y z).heap[k]? = W.heap[k]? := by
  unfold put3
  rw [Below.heap_setCell _ _ _ _ h, Below.heap_setCell _ _ _ _ h, Below.heap_setCell _ _ _ _ h]
def DualJ (w : World) (A1 : Option Addr) (c1 : Nat) (A2 : Option Addr) (c2 : Nat) (rk : List Int) (st : Int) (n : Nat) (s : Option Addr × Nat × Nat) (W : World) : Prop :=
  DW w W (.slice A1 rk.length c1) (.int .i64 st) (.slice A2 n c2) (.slice none 0 0) (.int .i64 0) (.slice none 0 0) ∧ Kd.R (Kd.int .i64) 3 W w.heap.size (fun k => w.heap.size + 2 ≤ k) (.slice s.1 rk.length s.2.1) rk ∧
    W.heap[s.2.2]? = some (.cells #[.slice none 0 0, .int .i64 0, .slice none 0 0] 25 (0, 0)) ∧ w.heap.size + 1 < s.2.2 ∧ (Value.slice s.1 rk.length s.2.1).ownBlock ≠ some s.2.2
def rowD (row : List (List (List Nd))) : List (List (List Nd)) := row.map dualD
def mvOkD (M : Mv) : Bool := M.all fun row => row.all dualOk
def dualR (rk : List Int) (st : Int) (M : Mv) : Int × List Int × Int × Mv := if auB rk st M then (if mvOkD M then (0, rk, st, M.map rowD) else (3, [], 0, [])) else (10, [], 0, [])
def DualRE (d : Int × List Int × Int × Mv) (w : World) (E : Ending) (w' : World) : Prop :=
  ∃ v1 v2, E = .returned (.tuple #[.agg #[v1, .int .i64 d.2.2.1, v2], .int .i64 d.1]) ∧ Kd.R (Kd.int .i64) 3 w' w.heap.size (fun k => w.heap.size ≤ k) v1 d.2.1 ∧ kA3.R 65 w' w.heap.size (fun k => w.heap.size ≤ k) v2 d.2.2.2 ∧ Below w.heap.size w w'
theorem results_row_tmp {P : Program} {fn : Func} {p u : Tmp} {ty : TypeId} (h : fn.results = #[.cell p ty, .tmp u]) (tmps : Array Value) (w : World) (g : Nat) (t : TypeId) (cs : Array Value) (fr : Nat × Nat) (d : TypeDesc)
    (hp : tmps.getD p undef = .pointer (some ⟨g, 0, none⟩)) (hg : w.heap[g]? = some (.cells cs t fr))
    (hu : P.underlying ty = some d) (hd : (match d with | .struct _ | .array _ _ => true | _ => false) = true) (hi : (P.info? ty).map (·.size) = some cs.size) :
    (results fn tmps).run P w = .ok (.tuple #[.agg cs, tmps.getD u undef]) w := by
  rw [results_cell_tmp h, hp]
  simp only [asAddr, Sem.run_pure, Result.andThen_ok, run_loadVar_row w g t ty cs fr d hg hu hd hi]
theorem inN_of {rk : List Int} {st : Int} {M : Mv} (h : AuOk rk st M) {row : List (List (List Nd))} (hr : row ∈ M) {a : List (List Nd)} (ha : a ∈ row) : a.length ≤ 12 ∧ ∀ l ∈ a, l.length ≤ 24 ∧ ∀ x ∈ l, InN x :=
  ⟨h.alts row hr a ha, fun l hl => ⟨h.lens row hr a ha l hl, fun x hx => h.nds row hr a ha l hl x hx⟩⟩
structure DO (w : World) (b5 : Nat) (a0 a1 a2 : Value) (rk : List Int) (st : Int) (vr vm : Value) (S : Nat → Prop) (Ms : Mv) (W : World) : Prop where
  dw : DW w W a0 a1 a2 (.slice none 0 0) (.int .i64 0) (.slice none 0 0)
  bx : W.heap[b5]? = some (.cells #[vr, .int .i64 st, vm] 25 (0, 0))
  hbl : w.heap.size + 1 < b5
  rr : Kd.R (Kd.int .i64) 3 W w.heap.size (fun k => w.heap.size + 2 ≤ k) vr rk
  hne : vr.ownBlock ≠ some b5
  hS : ∀ k, S k → b5 < k
  rm : kA3.R 65 W w.heap.size S vm Ms
theorem DO.move {w : World} {b5 : Nat} {a0 a1 a2 : Value} {rk : List Int} {st : Int} {vr vm : Value} {S : Nat → Prop} {Ms : Mv} {W W1 : World} (h : DO w b5 a0 a1 a2 rk st vr vm S Ms W) (hb : Below W.heap.size W W1) : DO w b5 a0 a1 a2 rk st vr vm S Ms W1 :=
  ⟨h.dw.below hb, blk_below h.bx hb, h.hbl, Kd.R_below h.rr hb, h.hne, h.hS, Kd.R_below h.rm hb⟩
theorem DO.bound {w : World} {b5 : Nat} {a0 a1 a2 : Value} {rk : List Int} {st : Int} {vr vm : Value} {S : Nat → Prop} {Ms : Mv} {W : World} (h : DO w b5 a0 a1 a2 rk st vr vm S Ms W) : DO w b5 a0 a1 a2 rk st vr vm (fun k => b5 < k ∧ k < W.heap.size) Ms W :=
  ⟨h.dw, h.bx, h.hbl, h.rr, h.hne, fun k hk => hk.1, Kd.R_mono (Kd.R_bound h.rm) (fun k hk => ⟨h.hS k hk.1, hk.2.2.1⟩)⟩
theorem DO.mono {w : World} {b5 : Nat} {a0 a1 a2 : Value} {rk : List Int} {st : Int} {vr vm : Value} {S : Nat → Prop} {Ms : Mv} {W : World} (h : DO w b5 a0 a1 a2 rk st vr vm S Ms W) : DO w b5 a0 a1 a2 rk st vr vm (fun k => b5 < k) Ms W :=
  ⟨h.dw, h.bx, h.hbl, h.rr, h.hne, fun k hk => hk, Kd.R_mono h.rm h.hS⟩
theorem DO.far {w : World} {b5 : Nat} {a0 a1 a2 : Value} {rk : List Int} {st : Int} {vr vm : Value} {S : Nat → Prop} {Ms : Mv} {W : World} (h : DO w b5 a0 a1 a2 rk st vr vm S Ms W) {g j : Nat} {cs : Array Value} (hg : W.heap[g]? = some (.cells cs 66 (0, 0))) (hb : b5 < g) (hS : ∀ k, S k → k ≠ g) (u : Value) :
    DO w b5 a0 a1 a2 rk st vr vm S Ms (W.setCell ⟨g, j, none⟩ u) :=
  ⟨h.dw.far (by have := h.hbl; omega) u, blk_far h.bx (by show b5 ≠ g; omega) u, h.hbl, R_other h.rr g (fun e => by obtain ⟨⟨c, hc⟩, _⟩ := ownBlock_typed h.rr e; exact types_ne hc hg (by decide) rfl) (fun _ h => by cases h) (fun k hk _ => Below.heap_setCell _ _ _ k hk), h.hne, h.hS,
    Kd.R_far h.rm (p := ⟨g, j, none⟩) (fun k hk he => hS k hk he) u⟩
theorem DO.put {w : World} {b5 : Nat} {a0 a1 a2 : Value} {rk : List Int} {st : Int} {vr vm v1 : Value} {Ms : Mv} {W W1 : World} (h : DO w b5 a0 a1 a2 rk st vr vm (fun k => b5 < k) Ms W) (row : List (List (List Nd)))
    (hr : kA3.R 65 W1 w.heap.size (fun k => b5 < k) v1 (Ms ++ [row])) (hb1 : Below w.heap.size w W1) (hg : W.grownBy W1 vm.ownBlock) : DO w b5 a0 a1 a2 rk st vr v1 (fun k => b5 < k) (Ms ++ [row]) (W1.setCell ⟨b5, 2, none⟩ v1) := by
  have hbx := blk_grown h.bx hg (fun e => by have := h.rm.1 _ e.symm; omega)
  have hrr := R_grown9 h.rr h.rm (by decide) (fun _ h => by cases h) hg
  exact ⟨(h.dw.grown hb1 hg (fun k hk => by have h1 := h.rm.1 k hk; have h2 : b5 < k := h1; have := h.hbl; omega)).far (by have := h.hbl; omega) v1, blk_set hbx 2 v1, h.hbl,
    R_other hrr b5 h.hne (fun _ h => by cases h) (fun k hk _ => Below.heap_setCell _ _ _ k hk), h.hne, fun k hk => hk, Kd.R_far hr (p := ⟨b5, 2, none⟩) (fun k hk he => by have h1 : b5 < k := hk; have h2 : k = b5 := he; omega) v1⟩
theorem R_rep (W : World) (base n : Nat) (hb : base ≤ W.heap.size) (hn : n ≤ maxLen) : kA2.R 66 (W.alloc (.cells (madeCells #[.slice none 0 0] n) 66)) base (fun k => W.heap.size ≤ k) (.slice (some ⟨W.heap.size, 0, none⟩) n n) (List.replicate n []) := by
  have hsz : kA2.sz = 1 := rfl
  rw [made_rep]
  refine ⟨fun k hk => ?_, List.replicate n (.slice none 0 0), ⟨by simp [hsz], .inr ⟨W.heap.size, n, _, by rw [List.length_replicate], hb, blk_new W _, by simp, hn, by simp [hsz], by simp [hsz]⟩⟩, by simp [hsz], fun j p hj => ?_⟩
  · have : W.heap.size = k := by simpa [Value.ownBlock] using hk
    omega
  · obtain ⟨hjl, hjp⟩ := List.getElem?_eq_some_iff.1 hj
    rw [List.length_replicate] at hjl
    refine ⟨.slice none 0 0, ?_, ?_⟩
    · rw [hsz, Nat.mul_one, List.drop_replicate]
      rw [show n - j = (n - j - 1) + 1 by omega]; rfl
    · rw [← hjp, List.getElem_replicate]
      exact Kd.R_nil _ _ _ _ _
theorem R_puts {α : Type} {d : Kd α} {e t base g n cap : Nat} {ok okp : Nat → Prop} {W : World} {xs : List (List α)} {v : Value} {x : List α} (h : (Kd.slice e d).R t W base ok (.slice (some ⟨g, 0, none⟩) n cap) xs) (i : Nat) (hi : i < n) (hv : d.R e W base okp v x) (hokp : ∀ k, okp k → ok k ∧ k ≠ g) :
    (Kd.slice e d).R t (W.setCell ⟨g, i, none⟩ v) base ok (.slice (some ⟨g, 0, none⟩) n cap) (xs.set i x) ∧ W.grownBy (W.setCell ⟨g, i, none⟩ v) (some g) := by
  obtain ⟨c, hcl, _, hcc, _⟩ := Kd.R_elem h [] (i : Int) (by omega) (by omega)
  have hs : (Kd.slice e d).sz = 1 := rfl
  have := Kd.R_seg h (i : Int) (by omega) (by omega) (c := c) (seg := [v]) (j := 0) hcl hcc (by rw [hs]; exact Nat.le_refl _) (x' := x) (okp := okp) (by
    rw [hs] at hcl
    rw [List.take_zero, List.nil_append, List.drop_eq_nil_of_le (by simp; omega), List.append_nil]
    exact ⟨v, rfl, hv⟩) hokp
  rw [hs, Int.toNat_natCast, Nat.mul_one, Nat.add_zero] at this
  exact this
theorem R_cell1 {α : Type} {d : Kd α} {e t base g n cap : Nat} {ok : Nat → Prop} {W : World} {xs : List (List α)} (h : (Kd.slice e d).R t W base ok (.slice (some ⟨g, 0, none⟩) n cap) xs) (i : Nat) (hi : i < n) : ∃ u, W.cell? ⟨g, i, none⟩ = some u ∧ W.frozen? ⟨g, i, none⟩ = false := by
  obtain ⟨c, hcl, hM, hcc, hf⟩ := Kd.R_elem h [] (i : Int) (by omega) (by omega)
  obtain ⟨u, rfl, hR⟩ := hM
  have hs : (Kd.slice e d).sz = 1 := rfl
  have h0 := hcc 0 u rfl
  have h1 := hf 0
  rw [hs, Int.toNat_natCast, Nat.mul_one, Nat.add_zero] at h0 h1
  exact ⟨u, h0, h1⟩
theorem set_row {α : Type} {n f : Nat} {r : List (List α)} (hr : r.length = f) (hf : f < n) (y : List α) : (r ++ List.replicate (n - f) []).set f y = (r ++ [y]) ++ List.replicate (n - (f + 1)) [] := by
  obtain ⟨m, hm⟩ : ∃ m, n - f = m + 1 := ⟨n - f - 1, by omega⟩
  rw [hm, List.set_append_right _ _ (by omega), List.replicate_succ, show f - r.length = 0 by omega, List.set_cons_zero, show n - (f + 1) = m by omega, List.append_assoc, List.singleton_append]
set_option maxHeartbeats 16000000 in
set_option maxRecDepth 100000 in
theorem adual_calls (rk : List Int) (M : Mv) (st : Int) (A1 : Option Addr) (c1 : Nat) (A2 : Option Addr) (c2 : Nat) (w : World)
    (hr : Kd.C (Kd.int .i64) w A1 rk.length rk) (hc1 : rk.length ≤ c1) (hM : Kd.C kA3 w A2 M.length M) (ht : TabD w) :
    Calls Tryz.prog 21 #[.agg #[.slice A1 rk.length c1, .int .i64 st, .slice A2 M.length c2]] w (DualRE (dualR rk st M) w) := by
  have HR := Aside0.mk hr
  have HM := Aside0.mk hM
  have HT := Aside0.mk ht
  have HD := Aside0.mk (DW.start w (.slice A1 rk.length c1) (.int .i64 st) (.slice A2 M.length c2))
  have HCK := Aside0.mk (acheckG_calls rk M st A1 c1 A2 c2 _ (Kd.C_below hr (HD.out).hb) hc1 (Kd.C_below hM (HD.out).hb))
  clear hr hc1 hM ht
  go_enter Tryz.func21, Tryz.ntmps21
  go_upto_region 1 with (fail)
  generalize ((w.alloc (.cells #[.slice A1 rk.length c1, .int .i64 st, .slice A2 M.length c2] 25)).alloc (.cells #[.slice none 0 0, .int .i64 0, .slice none 0 0] 25)) = W1 at *
  obtain ⟨k0, k1, k2⟩ := (HD.out).cells
  cases hau : auB rk st M with
  | false =>
    rw [chk_false hau] at HCK
    have HP := Aside0.mk (show dualR rk st M = (10, [], 0, []) by unfold dualR; rw [hau]; rfl)
    clear hau
    go_wp2_with fail
    refine (HCK.out).mono ?_
    rintro E W2 ⟨rfl, hb⟩
    have HD2 := Aside0.mk ((HD.out).below hb)
    clear hb k0 k1 k2
    obtain ⟨⟨k0, k1, k2⟩, f0, f1, f2⟩ := (HD2.out).rcells
    have HD3 := Aside0.mk ((HD2.out).put (.slice none 0 0) (.int .i64 0) (.slice none 0 0))
    unfold put3 at HD3
    go_wp2
    refine bodyPost_ret (results_row_tmp rfl _ _ (w.heap.size + 1) 25 #[.slice none 0 0, .int .i64 0, .slice none 0 0] (0, 0) _ rfl (HD3.out).h2 Tryz.underlying25 rfl (by kernel_rfl)) rfl ?_
    rw [HP.out]
    exact ⟨_, _, rfl, Kd.R_nil _ _ _ _ _, Kd.R_nil _ _ _ _ _, (HD3.out).hb⟩
  | true =>
  rw [chk_true hau] at HCK
  have HOK := Aside0.mk (auOk hau)
  have HPR := Aside0.mk (show dualR rk st M = if mvOkD M then (0, rk, st, M.map rowD) else (3, [], 0, []) by unfold dualR; rw [hau]; rfl)
  have HRL := Aside0.mk (show rk.length ≤ 24 from (HOK.out).nrk)
  clear hau
  go_wp2_with fail
  refine (HCK.out).mono ?_
  rintro E W2 ⟨rfl, hb⟩
  have HD2 := Aside0.mk ((HD.out).below hb)
  clear hb k0 k1 k2 HCK HD
  obtain ⟨k0, k1, k2⟩ := (HD2.out).cells
  have HD2d := Aside0.mk ((HD2.out).below (below_drew (Below.refl _ _)))
  have HHd := Aside0.mk (show w.heap.size + 2 ≤ W2.drew.heap.size from blk_lt (HD2d.out).h2)
  go_upto_region 4 with (fail)
  refine wp_region_noPanic ?_
  refine start_ (n := 8) (S := fun w' => w'.cell? ⟨w.heap.size, 0, none⟩ = some (.slice A1 rk.length c1) ∧ w'.cell? ⟨w.heap.size, 1, none⟩ = some (.int .i64 st)) (ds := [7]) #[false, false, false, false, false, false, false, false] (by kernel_rfl) rfl rfl ⟨pw_cell_below (below_drew (Below.refl _ _)) k0, pw_cell_below (below_drew (Below.refl _ _)) k1⟩ (fun hHeld => ?_)
  refine with_tabW tab21 bits21 (fun HT_ HW_ => ?_)
  clear k0 k1 k2
  generalize W2.drew = W3 at HD2d HHd hHeld ⊢
  refine take_ (i := 0) (N := some 19) (v := ?_) (a' := ?_) #[true, false, false, false, false, false, false, false] rfl rfl (take_ofW HT_.out HW_.out (by kernel_rfl)) (fun _ _ _ h => h) (Or.inl ⟨by rfl, ?_⟩) hHeld ?_ ?_
  rotate_left
  · rintro w' ⟨s0, s1⟩
    go_simp
    with_reducible rfl
  rotate_left
  · simp only [Act.put, List.setIfInBounds_toArray, List.set_cons_zero, List.set_cons_succ]
    rfl
  refine take_ (i := 1) (N := some 20) (v := ?_) (a' := ?_) #[true, true, false, false, false, false, false, false] rfl rfl (take_ofW HT_.out HW_.out (by kernel_rfl)) (fun _ _ _ h => h) (Or.inl ⟨by rfl, ?_⟩) hHeld ?_ ?_
  rotate_left
  · rintro w' ⟨s0, s1⟩
    go_simp
    with_reducible rfl
  rotate_left
  · simp only [Act.put, List.setIfInBounds_toArray, List.set_cons_zero, List.set_cons_succ]
    rfl
  refine take_ (i := 3) (N := some 22) (v := ?_) (a' := ?_) #[true, true, false, true, false, false, false, false] rfl rfl (take_ofW HT_.out HW_.out (by kernel_rfl)) (fun _ _ _ h => h) (Or.inl ⟨by rfl, ?_⟩) hHeld ?_ ?_
  rotate_left
  · rintro w' ⟨s0, s1⟩
    go_simp
    with_reducible rfl
  rotate_left
  · simp only [Act.put, List.setIfInBounds_toArray, List.set_cons_zero, List.set_cons_succ]
    rfl
  refine take_ (i := 4) (N := some 23) (v := ?_) (a' := ?_) #[true, true, false, true, true, false, false, false] rfl rfl (take_ofW HT_.out HW_.out (by kernel_rfl)) (fun _ _ _ h => h) (Or.inl ⟨by rfl, ?_⟩) hHeld ?_ ?_
  rotate_left
  · rintro w' ⟨s0, s1⟩
    go_simp
    with_reducible rfl
  rotate_left
  · simp only [Act.put, List.setIfInBounds_toArray, List.set_cons_zero, List.set_cons_succ]
    rfl
  refine join_ (σ := Option Addr × Nat × Nat) 1 #[true, true, true, true, true, true, true, false] (fun s => [(21, .slice s.1 rk.length s.2.1), (24, (.agg #[.slice s.1 rk.length s.2.1, .int .i64 st, .slice none 0 0])), (5, .pointer (some ⟨s.2.2, 0, none⟩))]) (DualJ w A1 c1 A2 c2 rk st M.length) ?cont (fun hcont => ?orders)
  case orders =>
    refine two_ (i := 2) (j := 6) (Ni := some 21) (Nj := some 5) #[true, true, true, true, true, false, false, false] #[true, true, false, true, true, false, true, false] rfl rfl rfl rfl (two_of HT_.out (by kernel_rfl)) (by decide) (by decide) (fun K hK => ?_) (fun K hK => ?_)
    · refine goes_ (f := 49) Tryz.func49 (by kernel_rfl) rfl #[.slice A1 rk.length c1] (by rfl) rfl rfl (by (try simp only [List.map_toArray, List.map_cons, List.map_nil]); rfl) ?_
      refine (clone_calls A1 c1 rk _ (Kd.C_below HR.out (HD2d.out).hb) HRL.out).mono ?_
      rintro E W4 ⟨v9, rfl, hR9, hb9⟩
      obtain ⟨A9, c9, e9⟩ := Kd.R_slice hR9
      subst e9
      have HD9 := Aside0.mk ((HD2d.out).below hb9)
      have HR9 := Aside0.mk (show Kd.R (Kd.int .i64) 3 _ w.heap.size (fun k => w.heap.size + 2 ≤ k) (.slice A9 rk.length c9) rk from Kd.R_lower (Kd.R_mono hR9 (fun k hk => Nat.le_trans (HHd.out) hk)) (by have := HHd.out; omega))
      refine ⟨_, rfl, ?_⟩
      refine hK.out _ _ ⟨(HD9.out).cells.1, (HD9.out).cells.2.1⟩ (fun hHeld => ?_)
      clear hK K
      refine norm_ (a' := ?_) ?_ ?_
      rotate_left
      · show Act.put _ (some 21) _ = _
        simp only [Act.put, List.setIfInBounds_toArray, List.set_cons_zero, List.set_cons_succ]
        rfl
      refine take_ (i := 5) (N := some 24) (v := ?_) (a' := ?_) #[true, true, true, true, true, true, false, false] rfl rfl (take_ofW HT_.out HW_.out (by kernel_rfl)) (fun _ _ _ h => h) (Or.inl ⟨by rfl, ?_⟩) hHeld ?_ ?_
      rotate_left
      · rintro w' ⟨s0, s1⟩
        go_simp
        with_reducible rfl
      rotate_left
      · simp only [Act.put, List.setIfInBounds_toArray, List.set_cons_zero, List.set_cons_succ]
        rfl
      refine one_ (i := 6) (N := some 5) #[true, true, true, true, true, true, true, false] rfl rfl (one_of HT_.out (by kernel_rfl)) (by decide) (fun K hK => ?_)
      refine box_step (by rfl) (N := 5) ?hd (cs := #[.slice none 0 0, .int .i64 0, .slice none 0 0]) (t := 25) ?hr ?_
      (case hd => rfl)
      (case hr => first | (go_simp; done) | (go_simp; rfl))
      intro b5 hg W5 hbox hb5
      have HBL := Aside0.mk (show w.heap.size + 1 < b5 by rw [hg]; exact blk_lt (HD9.out).h2)
      have HBX := Aside0.mk hbox
      have HD5 := Aside0.mk ((HD9.out).below hb5)
      have HR5 := Aside0.mk (Kd.R_below HR9.out hb5)
      have HNE := Aside0.mk (show (Value.slice A9 rk.length c9).ownBlock ≠ some b5 from fun e => by have := (ownBlock_typed HR9.out e).2; omega)
      refine hK.out _ _ ⟨(HD5.out).cells.1, (HD5.out).cells.2.1⟩ (fun hHeld => ?_)
      clear hK K
      refine norm_ (a' := ?_) ?_ ?_
      rotate_left
      · show Act.put _ (some 5) _ = _
        simp only [Act.put, List.setIfInBounds_toArray, List.set_cons_zero, List.set_cons_succ]
        rfl
      exact norm_ (by simp only [putAll, Act.put, List.setIfInBounds_toArray, List.set_cons_zero, List.set_cons_succ]) (hcont (A9, c9, b5) _ ⟨HD5.out, HR5.out, HBX.out, HBL.out, HNE.out⟩)
    · refine box_step (by rfl) (N := 5) ?hd (cs := #[.slice none 0 0, .int .i64 0, .slice none 0 0]) (t := 25) ?hr ?_
      (case hd => rfl)
      (case hr => first | (go_simp; done) | (go_simp; rfl))
      intro b5 hg W5 hbox hb5
      have HBL := Aside0.mk (show w.heap.size + 1 < b5 by rw [hg]; exact blk_lt (HD2d.out).h2)
      have HBX := Aside0.mk hbox
      have HD5 := Aside0.mk ((HD2d.out).below hb5)
      refine hK.out _ _ ⟨(HD5.out).cells.1, (HD5.out).cells.2.1⟩ (fun hHeld => ?_)
      clear hK K
      refine norm_ (a' := ?_) ?_ ?_
      rotate_left
      · show Act.put _ (some 5) _ = _
        simp only [Act.put, List.setIfInBounds_toArray, List.set_cons_zero, List.set_cons_succ]
        rfl
      have HHe := Aside0.mk (show w.heap.size + 2 ≤ W5.heap.size from by have := HHd.out; have := hb5.size; omega)
      refine one_ (i := 2) (N := some 21) #[true, true, true, true, true, false, true, false] rfl rfl (one_of HT_.out (by kernel_rfl)) (by decide) (fun K hK => ?_)
      refine goes_ (f := 49) Tryz.func49 (by kernel_rfl) rfl #[.slice A1 rk.length c1] (by rfl) rfl rfl (by (try simp only [List.map_toArray, List.map_cons, List.map_nil]); rfl) ?_
      refine (clone_calls A1 c1 rk _ (Kd.C_below HR.out (HD5.out).hb) HRL.out).mono ?_
      rintro E W6 ⟨v9, rfl, hR9, hb9⟩
      obtain ⟨A9, c9, e9⟩ := Kd.R_slice hR9
      subst e9
      have HD9 := Aside0.mk ((HD5.out).below hb9)
      have HR9 := Aside0.mk (show Kd.R (Kd.int .i64) 3 _ w.heap.size (fun k => w.heap.size + 2 ≤ k) (.slice A9 rk.length c9) rk from Kd.R_lower (Kd.R_mono hR9 (fun k hk => Nat.le_trans (HHe.out) hk)) (by have := HHe.out; omega))
      have HBX9 := Aside0.mk (blk_below HBX.out hb9)
      have HNE := Aside0.mk (show (Value.slice A9 rk.length c9).ownBlock ≠ some b5 from fun e => by have h1 := hR9.1 _ e; have h2 := blk_lt HBX.out; have h3 : W5.heap.size ≤ b5 := h1; omega)
      refine ⟨_, rfl, ?_⟩
      refine hK.out _ _ ⟨(HD9.out).cells.1, (HD9.out).cells.2.1⟩ (fun hHeld => ?_)
      clear hK K
      refine norm_ (a' := ?_) ?_ ?_
      rotate_left
      · show Act.put _ (some 21) _ = _
        simp only [Act.put, List.setIfInBounds_toArray, List.set_cons_zero, List.set_cons_succ]
        rfl
      refine take_ (i := 5) (N := some 24) (v := ?_) (a' := ?_) #[true, true, true, true, true, true, true, false] rfl rfl (take_ofW HT_.out HW_.out (by kernel_rfl)) (fun _ _ _ h => h) (Or.inl ⟨by rfl, ?_⟩) hHeld ?_ ?_
      rotate_left
      · rintro w' ⟨s0, s1⟩
        go_simp
        with_reducible rfl
      rotate_left
      · simp only [Act.put, List.setIfInBounds_toArray, List.set_cons_zero, List.set_cons_succ]
        rfl
      exact norm_ (by simp only [putAll, Act.put, List.setIfInBounds_toArray, List.set_cons_zero, List.set_cons_succ]) (hcont (A9, c9, b5) _ ⟨HD9.out, HR9.out, HBX9.out, HBL.out, HNE.out⟩)
  case cont =>
    rintro ⟨A9, c9, b5⟩ W6 ⟨hD, hR9, hbx, hbl, hne⟩
    dsimp only at hD hR9 hbx hbl hne
    refine norm_ (a' := ?_) ?_ ?_
    rotate_left
    · show putAll _ _ = _
      simp only [putAll, Act.put, List.setIfInBounds_toArray, List.set_cons_zero, List.set_cons_succ]
      rfl
    have kb0 : W6.cell? ⟨b5, 0, none⟩ = some (.slice none 0 0) := (blk_cell hbx 0).trans rfl
    have kb1 : W6.cell? ⟨b5, 1, none⟩ = some (.int .i64 0) := (blk_cell hbx 1).trans rfl
    have kb2 : W6.cell? ⟨b5, 2, none⟩ = some (.slice none 0 0) := (blk_cell hbx 2).trans rfl
    have fb0 := blk_frozen hbx 0
    have fb1 := blk_frozen hbx 1
    have fb2 := blk_frozen hbx 2
    have hother : ∀ (W : World) (j : Nat) (u : Value), Kd.R (Kd.int .i64) 3 W w.heap.size (fun k => w.heap.size + 2 ≤ k) (.slice A9 rk.length c9) rk → Kd.R (Kd.int .i64) 3 (W.setCell ⟨b5, j, none⟩ u) w.heap.size (fun k => w.heap.size + 2 ≤ k) (.slice A9 rk.length c9) rk := fun W j u h =>
      R_other h b5 hne (fun _ h => by cases h) (fun k hk _ => Below.heap_setCell _ _ _ k hk)
    have HDO := Aside0.mk (show DO w b5 (.slice A1 rk.length c1) (.int .i64 st) (.slice A2 M.length c2) rk st (.slice A9 rk.length c9) (.slice none 0 0) (fun k => b5 < k) [] (((W6.setCell ⟨b5, 0, none⟩ (.slice A9 rk.length c9)).setCell ⟨b5, 1, none⟩ (.int .i64 st)).setCell ⟨b5, 2, none⟩ (.slice none 0 0)) from
      ⟨((hD.far (by omega) _).far (by omega) _).far (by omega) _, blk_set (blk_set (blk_set hbx 0 _) 1 _) 2 _, hbl, hother _ 2 _ (hother _ 1 _ (hother _ 0 _ hR9)), hne, fun k hk => hk, Kd.R_nil _ _ _ _ _⟩)
    clear hD hR9 hbx hbl hne hother HD2d HHd HD2
    refine last_ (i := 7) (N := none) #[true, true, true, true, true, true, true, true] rfl rfl (one_of HT_.out (by kernel_rfl)) (by decide) (fun K hK => ?_)
    refine skip_ (w1 := ?_) (by rfl) rfl ?_ ?_
    rotate_left
    · go_simp
      rfl
    refine hK.out _ _ ?_
    clear hK K
    refine done_ (done_of HT_.out (by kernel_rfl)) ?_
    refine NoPanic.normal ?_
    clear kb0 kb1 kb2 fb0 fb1 fb2
    generalize ((W6.setCell ⟨b5, 0, none⟩ (.slice A9 rk.length c9)).setCell ⟨b5, 1, none⟩ (.int .i64 st)).setCell ⟨b5, 2, none⟩ (.slice none 0 0) = W7 at *
    obtain ⟨_, _, k2⟩ := (HDO.out).dw.cells
    have HNM := Aside0.mk (HOK.out).nM
    go_wp2
    clear k2
    go_loopg [28] M.length (fun gg v28 wi => ∃ (q : Nat) (vm : Value), q ≤ M.length ∧ M.length - q ≤ gg ∧ v28 = .int .i64 q ∧ Aside0 (DO w b5 (.slice A1 rk.length c1) (.int .i64 st) (.slice A2 M.length c2) rk st (.slice A9 rk.length c9) vm (fun k => b5 < k) ((M.take q).map rowD) wi) ∧ Aside0 (mvOkD (M.take q) = true))
    case atStart => exact ⟨0, _, Nat.zero_le _, Nat.le_refl _, rfl, HDO, ⟨rfl⟩⟩
    case round =>
      clear HDO
      obtain ⟨q, vm, hq, hgg, rfl, HO, HV⟩ := hrel
      by_cases hlt : q < M.length
      · have hltz : (q : Int) < (M.length : Int) := by omega
        have HLT := Aside0.mk hlt
        obtain ⟨ad, A0, c0, e, hk, hc0, hrow⟩ := at_sl HM.out q hlt
        subst e
        have hk2 := pw_cell_below (HO.out).dw.hb hk
        have HROW := Aside0.mk hrow
        have HRM := Aside0.mk (getD_memY [] hlt)
        have HKQ := Aside0.mk (show wrap64 ((q : Int) + 1) = ((q + 1 : Nat) : Int) by rw [wr_id (by omega) (by have := HNM.out; omega)]; rfl)
        have HTK := Aside0.mk (show (M.take (q + 1)).map rowD = (M.take q).map rowD ++ [rowD (M.getD q [])] by
          rw [List.take_add_one, List.map_append, List.getD_eq_getElem?_getD, List.getElem?_eq_getElem hlt]; rfl)
        have HTV := Aside0.mk (show mvOkD (M.take (q + 1)) = (mvOkD (M.take q) && (M.getD q []).all dualOk) by
          unfold mvOkD
          rw [List.take_add_one, List.all_append, List.getD_eq_getElem?_getD, List.getElem?_eq_getElem hlt]; simp)
        clear hk hc0 hrow hlt hq
        generalize M.getD q [] = row at *
        have HRL2 := Aside0.mk (show row.length ≤ 24 from by rw [(HOK.out).row row HRM.out]; exact HRL.out)
        have HB0 := Aside0.mk ((HO.out).bound)
        generalize wr = WR at *
        have HOA := Aside0.mk ((HB0.out).move (below_alloc (Below.refl _ _) (.cells (madeCells #[.slice none 0 0] row.length) 66)))
        have HRW := Aside0.mk (R_rep WR w.heap.size row.length ((HO.out).dw.hb.size) (by unfold maxLen; have := HRL2.out; omega))
        have HGB := Aside0.mk (blk_lt (HO.out).bx)
        have hmk : ∀ W : World, (Instr.makeSlice 65 (.int .i64 (row.length : Int)) (.int .i64 (row.length : Int))).run Tryz.prog W = .ok (.slice (some ⟨W.heap.size, 0, none⟩) row.length row.length) (W.alloc (.cells (madeCells #[.slice none 0 0] row.length) 66)) := fun W => run_make_row' 65 66 (.slice none 0 0) 24 Tryz.underlying65 Q.info66 rfl .i64 .i64 row.length (by have := HRL2.out; omega) (by have := HRL2.out; omega) W
        clear HO HB0
        go_upto_region 9 with (fail)
        clear hmk hk2 hltz
        have HGL := Aside0.mk (blk_new WR (.cells (madeCells #[.slice none 0 0] row.length) 66))
        generalize WR.alloc (.cells (madeCells #[.slice none 0 0] row.length) 66) = W8 at *
        generalize WR.heap.size = g at *
        go_wp2
        go_loopg [37] row.length (fun gg v37 wi => ∃ f : Nat, f ≤ row.length ∧ row.length - f ≤ gg ∧ v37 = .int .i64 f ∧ Aside0 (DO w b5 (.slice A1 rk.length c1) (.int .i64 st) (.slice (some ad) M.length c2) rk st (.slice A9 rk.length c9) vm (fun k => b5 < k ∧ k < g) ((M.take q).map rowD) wi) ∧ Aside0 (kA2.R 66 wi w.heap.size (fun k => g ≤ k) (.slice (some ⟨g, 0, none⟩) row.length row.length) ((row.take f).map dualD ++ List.replicate (row.length - f) [])) ∧ Aside0 ((row.take f).all dualOk = true))
        case atStart => exact ⟨0, Nat.zero_le _, Nat.le_refl _, rfl, HOA, HRW, ⟨rfl⟩⟩
        case round =>
          clear HOA HRW HGL
          obtain ⟨f, hf, hgg, rfl, HO, HW, HA⟩ := hrel
          by_cases hlt : f < row.length
          · have hltz : (f : Int) < (row.length : Int) := by omega
            have HLF := Aside0.mk hlt
            obtain ⟨ad3, A3, c3, e, hk, hc3, halt⟩ := at_sl HROW.out f hlt
            subst e
            have hk2 := pw_cell_below (HO.out).dw.hb hk
            have HAM := Aside0.mk (getD_memY [] hlt)
            have HKF := Aside0.mk (show wrap64 ((f : Int) + 1) = ((f + 1 : Nat) : Int) by rw [wr_id (by omega) (by have := HRL2.out; omega)]; rfl)
            have HTF := Aside0.mk (show (row.take (f + 1)).map dualD = (row.take f).map dualD ++ [dualD (row.getD f [])] by
              rw [List.take_add_one, List.map_append, List.getD_eq_getElem?_getD, List.getElem?_eq_getElem hlt]; rfl)
            have HTA := Aside0.mk (show (row.take (f + 1)).all dualOk = ((row.take f).all dualOk && dualOk (row.getD f [])) by
              rw [List.take_add_one, List.all_append, List.getD_eq_getElem?_getD, List.getElem?_eq_getElem hlt]; simp)
            have HTL := Aside0.mk (show ((row.take f).map dualD).length = f by rw [List.length_map, List.length_take]; omega)
            have HALT := Aside0.mk (Kd.C_below halt (HO.out).dw.hb)
            have HIN := Aside0.mk (inN_of HOK.out HRM.out HAM.out)
            clear hk hc3 halt hlt hf
            generalize row.getD f [] = alts at *
            have HDL := Aside0.mk (dual_calls alts A3 c3 wr HALT.out (HIN.out).1 (HIN.out).2 ((HT.out).below (HO.out).dw.hb))
            go_wp2_with fail
            refine (HDL.out).mono ?_
            rintro E W9 ⟨v9, rfl, hR, hb⟩
            have HO9 := Aside0.mk ((HO.out).move hb)
            have HW9 := Aside0.mk (Kd.R_below HW.out hb)
            have HR9 := Aside0.mk (show kA1.R 69 W9 w.heap.size (fun k => wr.heap.size ≤ k) v9 (dualD alts) from Kd.R_lower hR (HO.out).dw.hb.size)
            have HGW := Aside0.mk (show g < wr.heap.size from (ownBlock_typed HW.out rfl).2)
            have HGC := Aside0.mk (ownBlock_typed HW9.out (k := g) rfl).1
            clear hR hb hk2 hltz HO HW HDL
            cases hok : dualOk alts with
            | false =>
              have HP := Aside0.mk (show dualR rk st M = (3, [], 0, []) by
                rw [HPR.out, if_neg]
                intro h
                have h1 := List.all_eq_true.1 (List.all_eq_true.1 h row HRM.out) alts HAM.out
                rw [hok] at h1
                cases h1)
              clear hok
              obtain ⟨⟨k0, k1, k2⟩, f0, f1, f2⟩ := (HO9.out).dw.rcells
              have HD3 := Aside0.mk ((HO9.out).dw.put (.slice none 0 0) (.int .i64 0) (.slice none 0 0))
              unfold put3 at HD3
              go_wp2
              refine bodyPost_ret (results_row_tmp rfl _ _ (w.heap.size + 1) 25 #[.slice none 0 0, .int .i64 0, .slice none 0 0] (0, 0) _ rfl (HD3.out).h2 Tryz.underlying25 rfl (by kernel_rfl)) rfl ?_
              rw [HP.out]
              exact ⟨_, _, rfl, Kd.R_nil _ _ _ _ _, Kd.R_nil _ _ _ _ _, (HD3.out).hb⟩
            | true =>
              have HA2 := Aside0.mk (show (row.take (f + 1)).all dualOk = true by rw [HTA.out, HA.out, hok]; rfl)
              obtain ⟨uc, hcu, hfu⟩ := R_cell1 HW9.out f HLF.out
              obtain ⟨hW2, _⟩ := R_puts HW9.out f HLF.out HR9.out (fun k hk => by have h1 : wr.heap.size ≤ k := hk; have h2 := HGW.out; exact ⟨by show g ≤ k; omega, by omega⟩)
              have HW2 := Aside0.mk (show kA2.R 66 (W9.setCell ⟨g, f, none⟩ v9) w.heap.size (fun k => g ≤ k) (.slice (some ⟨g, 0, none⟩) row.length row.length) ((row.take (f + 1)).map dualD ++ List.replicate (row.length - (f + 1)) []) from by
                rw [HTF.out, ← set_row HTL.out HLF.out]; exact hW2)
              obtain ⟨cg, hcg⟩ := HGC.out
              have HO2 := Aside0.mk ((HO9.out).far (j := f) hcg HGB.out (fun k hk => by have := hk.2; omega) v9)
              obtain ⟨A10, c10, e10⟩ := Kd.R_slice (HR9.out)
              subst e10
              have hltz : (f : Int) < (row.length : Int) := by have := HLF.out; omega
              clear hok hW2 hcg
              go_wp2
              go_roundg (row.length - (f + 1))
              case measure => have := HLF.out; omega
              case rel => exact ⟨f + 1, HLF.out, Nat.le_refl _, by rw [HKF.out], HO2, HW2, HA2⟩
          · obtain rfl : f = row.length := by omega
            have HWF := Aside0.mk (show kA2.R 66 wr w.heap.size (fun k => g ≤ k) (.slice (some ⟨g, 0, none⟩) row.length row.length) (rowD row) from by have := HW.out; rw [List.take_length, Nat.sub_self, List.replicate_zero, List.append_nil] at this; exact this)
            have HV2 := Aside0.mk (show mvOkD (M.take (q + 1)) = true by have h := HA.out; rw [List.take_length] at h; rw [HTV.out, HV.out, h]; rfl)
            have HMO := Aside0.mk ((HO.out).mono)
            have HOWN := Aside0.mk (show ∀ k, vm.ownBlock = some k → k < g from fun k hk => ((HO.out).rm.1 k hk).2)
            have kb2 : wr.cell? ⟨b5, 2, none⟩ = some vm := (blk_cell (HO.out).bx 2).trans rfl
            have HML := Aside0.mk (show ((M.take q).map rowD).length ≤ 6 by rw [List.length_map, List.length_take]; have := HNM.out; omega)
            have HL7 := Aside0.mk (show ((M.take q).map rowD ++ [rowD row]).length = q + 1 by rw [List.length_append, List.length_map, List.length_take, List.length_singleton]; have := HLT.out; omega)
            have HLR := Aside0.mk (show (rowD row).length = row.length by unfold rowD; rw [List.length_map])
            clear hf hgg hlt HW HA HO
            go_wp2_with ((with_reducible refine gate_builtin (b := .append) (xs := #[.tmp 56, .tmp 58]) rfl ?_); at_builtin; refine Kd.R_append kA3 (w0 := w) w.heap.size rfl (.tmp 56) (.tmp 58) 23 65 (.slice none 0 0) 24 rfl Tryz.underlying23 Q.info65 rfl (show 0 < 1 by decide) (by decide) vm ((M.take q).map rowD) (rowD row) [.slice (some ⟨g, 0, none⟩) row.length row.length] (fun k => b5 < k) (fun k => g ≤ k) rfl rfl ⟨_, rfl, HWF.out⟩ (fun k hk => ⟨by have h1 := HGB.out; have h3 : g ≤ k := hk; show b5 < k; omega, fun e => by have h1 := HOWN.out k e.symm; have h3 : g ≤ k := hk; omega⟩) (fun k hk => by have h1 := blk_lt (HMO.out).bx; have h3 : wr.heap.size ≤ k := hk; show b5 < k; omega) (HMO.out).rm (HMO.out).dw.hb (HMO.out).dw.hb.size (by have := HML.out; omega) ?_; intro v7 w7 ho7 hb7 hg7 hat7; have HO7 := Aside0.mk ((HMO.out).put (rowD row) ho7 hb7 hg7); rw [← HTK.out] at HO7; have HBK := Aside0.mk (blk_grown (HMO.out).bx hg7 (fun e => by have := (HMO.out).rm.1 _ e.symm; omega)); have k7 : w7.cell? ⟨b5, 2, none⟩ = some vm := (blk_cell HBK.out 2).trans rfl; have f7 := blk_frozen HBK.out 2; (obtain ⟨A7, c7, e7⟩ := Kd.R_slice ho7); rw [HL7.out] at e7; subst e7; clear ho7 hb7 hg7 hat7)
            go_roundg (M.length - (q + 1))
            case measure => have := HLT.out; omega
            case rel => exact ⟨q + 1, _, HLT.out, Nat.le_refl _, by rw [HKQ.out], HO7, HV2⟩
      · obtain rfl : q = M.length := by omega
        rw [List.take_length] at HO HV
        have HP := Aside0.mk (show dualR rk st M = (0, rk, st, M.map rowD) by rw [HPR.out, if_pos HV.out])
        obtain ⟨A7, c7, e7⟩ := Kd.R_slice (HO.out).rm
        rw [List.length_map] at e7
        subst e7
        have kb0 : wr.cell? ⟨b5, 0, none⟩ = some (.slice A9 rk.length c9) := (blk_cell (HO.out).bx 0).trans rfl
        have kb1 : wr.cell? ⟨b5, 1, none⟩ = some (.int .i64 st) := (blk_cell (HO.out).bx 1).trans rfl
        have kb2 : wr.cell? ⟨b5, 2, none⟩ = some (.slice A7 M.length c7) := (blk_cell (HO.out).bx 2).trans rfl
        obtain ⟨⟨k0, k1, k2⟩, f0, f1, f2⟩ := (HO.out).dw.rcells
        have HD3 := Aside0.mk ((HO.out).dw.put (.slice A9 rk.length c9) (.int .i64 st) (.slice A7 M.length c7))
        have HRR := Aside0.mk (Kd.R_mono (R_same (w1 := put3 wr (w.heap.size + 1) (.slice A9 rk.length c9) (.int .i64 st) (.slice A7 M.length c7)) (HO.out).rr (fun k hk _ => put3_heap _ _ _ _ _ k (by omega))) (ok' := fun k => w.heap.size ≤ k) (fun k hk => by omega))
        have HRM := Aside0.mk (Kd.R_mono (R_same (w1 := put3 wr (w.heap.size + 1) (.slice A9 rk.length c9) (.int .i64 st) (.slice A7 M.length c7)) (HO.out).rm (fun k hk _ => put3_heap _ _ _ _ _ k (by have h1 : b5 < k := hk; have := (HO.out).hbl; omega))) (ok' := fun k => w.heap.size ≤ k) (fun k hk => by have h1 : b5 < k := hk; have := (HO.out).hbl; omega))
        unfold put3 at HD3 HRR HRM
        clear HO HV hq hgg hlt
        go_wp2
        refine bodyPost_ret (results_row_tmp rfl _ _ (w.heap.size + 1) 25 #[.slice A9 rk.length c9, .int .i64 st, .slice A7 M.length c7] (0, 0) _ rfl (HD3.out).h2 Tryz.underlying25 rfl (by kernel_rfl)) rfl ?_
        rw [HP.out]
        exact ⟨_, _, rfl, HRR.out, HRM.out, (HD3.out).hb⟩
end Go.Proofs.YtbmcigakiibncaaGreatDoor.H
namespace Go.Proofs.YtbmcigakiibncaaGreatDoor.H
open Go.RowKit
set_option linter.unusedVariables false
set_option linter.unusedSimpArgs false
def SubM (a b : Nat) : Prop := ∀ i, a.testBit i = true → b.testBit i = true
def HitsM (alts : List Nat) (x : Nat) : Prop := ∀ l ∈ alts, l &&& x ≠ 0
theorem bit_lt {x i : Nat} (hx : x < 16777216) (h : x.testBit i = true) : i < 24 := by
  apply Classical.byContradiction
  intro hc
  have : x < 2 ^ i := Nat.lt_of_lt_of_le hx (by rw [show (16777216 : Nat) = 2 ^ 24 from rfl]; exact Nat.pow_le_pow_right (by decide) (by omega))
  rw [Nat.testBit_lt_two_pow this] at h; cases h
theorem mask_ext {a b : Nat} (ha : a < 16777216) (hb : b < 16777216) (h : ∀ i, i < 24 → a.testBit i = b.testBit i) : a = b := by
  apply Nat.eq_of_testBit_eq
  intro i
  by_cases hi : i < 24
  · exact h i hi
  · have p : (16777216 : Nat) ≤ 2 ^ i := by rw [show (16777216 : Nat) = 2 ^ 24 from rfl]; exact Nat.pow_le_pow_right (by decide) (by omega)
    rw [Nat.testBit_lt_two_pow (Nat.lt_of_lt_of_le ha p), Nat.testBit_lt_two_pow (Nat.lt_of_lt_of_le hb p)]
theorem and_ne {l x : Nat} : l &&& x ≠ 0 ↔ ∃ i, l.testBit i = true ∧ x.testBit i = true := by
  constructor
  · intro h
    apply Classical.byContradiction
    intro hc
    apply h
    apply Nat.eq_of_testBit_eq
    intro i
    rw [Nat.testBit_and, Nat.zero_testBit]
    cases h1 : l.testBit i with
    | false => rfl
    | true =>
      cases h2 : x.testBit i with
      | false => rfl
      | true => exact absurd ⟨i, h1, h2⟩ hc
  · rintro ⟨i, h1, h2⟩ h
    have : (l &&& x).testBit i = true := by rw [Nat.testBit_and, h1, h2]; rfl
    rw [h, Nat.zero_testBit] at this; cases this
theorem and_one {l x i : Nat} : l &&& x = 2 ^ i ↔ (l.testBit i = true ∧ x.testBit i = true) ∧ ∀ j, l.testBit j = true → x.testBit j = true → j = i := by
  constructor
  · intro h
    have hb : ∀ j, (l &&& x).testBit j = decide (i = j) := fun j => by rw [h, Nat.testBit_two_pow]
    have h1 := hb i
    rw [Nat.testBit_and] at h1
    simp at h1
    refine ⟨h1, fun j hl hx => ?_⟩
    have h2 := hb j
    rw [Nat.testBit_and, hl, hx] at h2
    simp at h2
    exact h2.symm
  · rintro ⟨⟨h1, h2⟩, h3⟩
    apply Nat.eq_of_testBit_eq
    intro j
    rw [Nat.testBit_and, Nat.testBit_two_pow]
    by_cases e : i = j
    · subst e; rw [h1, h2]; simp
    · rw [decide_eq_false e]
      cases h4 : l.testBit j with
      | false => rfl
      | true =>
        cases h5 : x.testBit j with
        | false => rfl
        | true => exact absurd (h3 j h4 h5).symm e
theorem needed_iff {alts : List Nat} {x : Nat} (hx : x < 16777216) : neededB alts x = true ↔ ∀ i, x.testBit i = true → ∃ l ∈ alts, l &&& x = 2 ^ i := by
  unfold neededB
  rw [List.all_eq_true]
  constructor
  · intro h i hi
    obtain ⟨l, hl, e⟩ := List.any_eq_true.1 (h i (bitsN_mem.2 ⟨bit_lt hx hi, hi⟩))
    exact ⟨l, hl, beq_iff_eq.1 e⟩
  · intro h i hi
    obtain ⟨l, hl, e⟩ := h i (bitsN_mem.1 hi).2
    exact List.any_eq_true.2 ⟨l, hl, beq_iff_eq.2 e⟩
theorem hits_find {alts : List Nat} {x : Nat} : alts.find? (fun l => l &&& x == 0) = none ↔ HitsM alts x := by
  rw [List.find?_eq_none]
  unfold HitsM
  constructor
  · intro h l hl e
    exact h l hl (beq_iff_eq.2 e)
  · intro h l hl e
    exact h l hl (beq_iff_eq.1 e)
theorem hitBits_mem {rec : Nat → Nat → List Nat} {x T : Nat} : ∀ {wo : Nat} {bs : List Nat}, T ∈ hitBits rec x wo bs → ∃ i wo', i ∈ bs ∧ T ∈ rec (x ||| 2 ^ i) wo' ∧ SubM wo wo'
  | wo, [], h => by cases h
  | wo, i :: r, h => by
    rw [hitBits] at h
    rcases List.mem_append.1 h with h | h
    · exact ⟨i, wo, List.mem_cons_self .., h, fun _ h => h⟩
    · obtain ⟨j, wo', h1, h2, h3⟩ := hitBits_mem h
      exact ⟨j, wo', List.mem_cons_of_mem _ h1, h2, fun k hk => h3 k (by rw [Nat.testBit_or, hk]; rfl)⟩
theorem hit_sound (alts : List Nat) : ∀ (k x wo T : Nat), T ∈ hitAll alts k x wo → HitsM alts T ∧ neededB alts T = true ∧ SubM x T
  | 0, x, wo, T, h => by cases h
  | k + 1, x, wo, T, h => by
    rw [hitAll] at h
    cases hn : neededB alts x with
    | false => rw [hn] at h; cases h
    | true =>
      rw [hn, if_pos rfl] at h
      cases hf : alts.find? (fun l => l &&& x == 0) with
      | none =>
        rw [hf] at h
        obtain rfl := List.mem_singleton.1 h
        exact ⟨hits_find.1 hf, hn, fun _ h => h⟩
      | some l =>
        rw [hf] at h
        obtain ⟨i, wo', _, h2, _⟩ := hitBits_mem h
        obtain ⟨a, b, c⟩ := hit_sound alts k _ _ T h2
        exact ⟨a, b, fun j hj => c j (by rw [Nat.testBit_or, hj]; rfl)⟩
theorem hit_lt (alts : List Nat) (hal : ∀ l ∈ alts, l < 16777216) : ∀ (k x wo T : Nat), x < 16777216 → T ∈ hitAll alts k x wo → T < 16777216
  | 0, x, wo, T, hx, h => by cases h
  | k + 1, x, wo, T, hx, h => by
    rw [hitAll] at h
    cases hn : neededB alts x with
    | false => rw [hn] at h; cases h
    | true =>
      rw [hn, if_pos rfl] at h
      cases hf : alts.find? (fun l => l &&& x == 0) with
      | none =>
        rw [hf] at h
        obtain rfl := List.mem_singleton.1 h
        exact hx
      | some l =>
        rw [hf] at h
        obtain ⟨i, wo', h1, h2, _⟩ := hitBits_mem h
        exact hit_lt alts hal k _ _ T (or_lt hx (bitsN_mem.1 h1).1) h2
theorem andN_bits {l wo i : Nat} (hw : wo < 16777216) (hi : i < 24) : (andN l wo).testBit i = (l.testBit i && !wo.testBit i) := by
  unfold andN
  rw [Nat.testBit_and]
  congr 1
  rw [show 18446744073709551615 - wo = 2 ^ 64 - (wo + 1) by omega, Nat.testBit_two_pow_sub_succ (by omega), decide_eq_true (show i < 64 by omega), Bool.true_and]
theorem hitBits_find {rec : Nat → Nat → List Nat} {x T : Nat} : ∀ {bs : List Nat} {wo : Nat}, wo < 16777216 → (∀ i ∈ bs, i < 24) → (∀ j, wo.testBit j = true → T.testBit j = false) → (∃ i ∈ bs, T.testBit i = true) →
    (∀ i wo', i ∈ bs → T.testBit i = true → wo' < 16777216 → (∀ j, wo'.testBit j = true → T.testBit j = false) → T ∈ rec (x ||| 2 ^ i) wo') → T ∈ hitBits rec x wo bs
  | [], wo, hw, h24, hd, he, hr => by obtain ⟨i, hi, _⟩ := he; cases hi
  | i :: r, wo, hw, h24, hd, he, hr => by
    rw [hitBits]
    by_cases ht : T.testBit i = true
    · exact List.mem_append_left _ (hr i wo (List.mem_cons_self ..) ht hw hd)
    · refine List.mem_append_right _ (hitBits_find (or_lt hw (h24 i (List.mem_cons_self ..))) (fun j hj => h24 j (List.mem_cons_of_mem _ hj)) (fun j hj => ?_) ?_ fun j wo' hj => hr j wo' (List.mem_cons_of_mem _ hj))
      · rw [Nat.testBit_or, Bool.or_eq_true] at hj
        rcases hj with hj | hj
        · exact hd j hj
        · rw [Nat.testBit_two_pow] at hj
          obtain rfl := of_decide_eq_true hj
          simpa using ht
      · obtain ⟨j, hj, h2⟩ := he
        rcases List.mem_cons.1 hj with rfl | hj
        · exact absurd h2 ht
        · exact ⟨j, hj, h2⟩
theorem bitsN_le {x T : Nat} (h : SubM x T) : (bitsN x).length ≤ (bitsN T).length := by
  unfold bitsN
  have key : ∀ l : List Nat, (l.filter fun i => x.testBit i).length ≤ (l.filter fun i => T.testBit i).length := by
    intro l
    induction l with
    | nil => exact Nat.le_refl _
    | cons a r ih =>
      rw [List.filter_cons, List.filter_cons]
      cases h1 : x.testBit a with
      | false =>
        rw [if_neg (by decide)]
        split
        · rw [List.length_cons]; omega
        · exact ih
      | true => rw [h a h1]; simpa using ih
  exact key _
theorem hit_complete (alts : List Nat) (hal : ∀ l ∈ alts, l < 16777216) (T : Nat) (hT : T < 16777216) (hh : HitsM alts T) (hn : neededB alts T = true) : ∀ (k x wo : Nat), x < 16777216 → wo < 16777216 → SubM x T → (∀ j, wo.testBit j = true → T.testBit j = false) → (bitsN T).length < k + (bitsN x).length → T ∈ hitAll alts k x wo := by
  intro k
  induction k with
  | zero => intro x wo hx hw hs hd hk; have := bitsN_le hs; omega
  | succ k ih =>
    intro x wo hx hw hs hd hk
    have hnT := (needed_iff hT).1 hn
    have hnx : neededB alts x = true := by
      refine (needed_iff hx).2 fun i hi => ?_
      obtain ⟨l, hl, e⟩ := hnT i (hs i hi)
      refine ⟨l, hl, and_one.2 ?_⟩
      have e2 := and_one.1 e
      exact ⟨⟨e2.1.1, hi⟩, fun j h1 h2 => e2.2 j h1 (hs j h2)⟩
    rw [hitAll, hnx, if_pos rfl]
    cases hf : alts.find? (fun l => l &&& x == 0) with
    | none =>
      have hx2 := hits_find.1 hf
      have : T = x := by
        refine mask_ext hT hx fun i hi => ?_
        cases h2 : x.testBit i with
        | true => exact hs i h2
        | false =>
          cases h1 : T.testBit i with
          | false => rfl
          | true =>
            obtain ⟨l, hl, e⟩ := hnT i h1
            obtain ⟨j, j1, j2⟩ := and_ne.1 (hx2 l hl)
            have := (and_one.1 e).2 j j1 (hs j j2)
            subst this
            rw [h2] at j2; cases j2
      rw [this]
      exact List.mem_singleton.2 rfl
    | some l =>
      have hl := List.mem_of_find?_eq_some hf
      have hl0 : (l &&& x == 0) = true := List.find?_some (p := fun l => l &&& x == 0) hf
      obtain ⟨i, i1, i2⟩ := and_ne.1 (hh l hl)
      have i24 := bit_lt (hal l hl) i1
      have iw : wo.testBit i = false := by
        cases h : wo.testBit i with
        | false => rfl
        | true => rw [hd i h] at i2; cases i2
      refine hitBits_find hw (fun j hj => (bitsN_mem.1 hj).1) hd ⟨i, bitsN_mem.2 ⟨i24, by rw [andN_bits hw i24, i1, iw]; rfl⟩, i2⟩ fun j wo' hj hTj hw' hd' => ?_
      obtain ⟨j24, jb⟩ := bitsN_mem.1 hj
      have hxj := and_zero_bit hl0 (andN_bit jb)
      refine ih _ _ (or_lt hx j24) hw' (fun m hm => ?_) hd' ?_
      · rw [Nat.testBit_or, Bool.or_eq_true] at hm
        rcases hm with hm | hm
        · exact hs m hm
        · rw [Nat.testBit_two_pow] at hm
          obtain rfl := of_decide_eq_true hm
          exact hTj
      · rw [or_len hxj j24]; omega
theorem hit_without (alts : List Nat) : ∀ (k x wo T : Nat), wo < 16777216 → (∀ j, wo.testBit j = true → x.testBit j = false) → T ∈ hitAll alts k x wo → ∀ j, wo.testBit j = true → T.testBit j = false
  | 0, x, wo, T, hw, hd, h => by cases h
  | k + 1, x, wo, T, hw, hd, h => by
    rw [hitAll] at h
    cases hn : neededB alts x with
    | false => rw [hn] at h; cases h
    | true =>
      rw [hn, if_pos rfl] at h
      cases hf : alts.find? (fun l => l &&& x == 0) with
      | none =>
        rw [hf] at h
        obtain rfl := List.mem_singleton.1 h
        exact hd
      | some l =>
        rw [hf] at h
        have key : ∀ (bs : List Nat) (wo2 : Nat), wo2 < 16777216 → (∀ i ∈ bs, i < 24 ∧ wo2.testBit i = false) → bs.Nodup → (∀ j, wo2.testBit j = true → x.testBit j = false) → (∀ i ∈ bs, x.testBit i = false) → T ∈ hitBits (hitAll alts k) x wo2 bs → ∀ j, wo2.testBit j = true → T.testBit j = false := by
          intro bs
          induction bs with
          | nil => intro wo2 _ _ _ _ _ h; cases h
          | cons i r ihb =>
            intro wo2 hw2 hb2 hnd hd2 hx2 h j hj
            obtain ⟨i24, iw⟩ := hb2 i (List.mem_cons_self ..)
            rw [hitBits] at h
            rcases List.mem_append.1 h with h | h
            · refine hit_without alts k _ _ T hw2 (fun m hm => ?_) h j hj
              rw [Nat.testBit_or, hd2 m hm, Nat.testBit_two_pow, Bool.false_or]
              refine decide_eq_false fun e => ?_
              subst e
              rw [hm] at iw; cases iw
            · refine ihb (wo2 ||| 2 ^ i) (or_lt hw2 i24) (fun m hm => ⟨(hb2 m (List.mem_cons_of_mem _ hm)).1, ?_⟩) (List.nodup_cons.1 hnd).2 (fun m hm => ?_) (fun m hm => hx2 m (List.mem_cons_of_mem _ hm)) h j (by rw [Nat.testBit_or, hj]; rfl)
              · rw [Nat.testBit_or, (hb2 m (List.mem_cons_of_mem _ hm)).2, Nat.testBit_two_pow, Bool.false_or]
                refine decide_eq_false fun e => ?_
                subst e
                exact (List.nodup_cons.1 hnd).1 hm
              · rw [Nat.testBit_or, Bool.or_eq_true] at hm
                rcases hm with hm | hm
                · exact hd2 m hm
                · rw [Nat.testBit_two_pow] at hm
                  obtain rfl := of_decide_eq_true hm
                  exact hx2 _ (List.mem_cons_self ..)
        have hl0 : (l &&& x == 0) = true := List.find?_some (p := fun l => l &&& x == 0) hf
        refine key _ wo hw (fun i hi => ?_) ?_ hd (fun i hi => and_zero_bit hl0 (andN_bit (bitsN_mem.1 hi).2)) h
        · obtain ⟨h1, h2⟩ := bitsN_mem.1 hi
          rw [andN_bits hw h1, Bool.and_eq_true] at h2
          exact ⟨h1, by simpa using h2.2⟩
        · unfold bitsN
          exact List.Nodup.sublist List.filter_sublist List.nodup_range
theorem hit_nodup (alts : List Nat) (hal : ∀ l ∈ alts, l < 16777216) : ∀ (k x wo : Nat), x < 16777216 → wo < 16777216 → (∀ j, wo.testBit j = true → x.testBit j = false) → (hitAll alts k x wo).Nodup
  | 0, x, wo, hx, hw, hd => List.nodup_nil
  | k + 1, x, wo, hx, hw, hd => by
    rw [hitAll]
    cases hn : neededB alts x with
    | false => exact List.nodup_nil
    | true =>
      rw [if_pos rfl]
      cases hf : alts.find? (fun l => l &&& x == 0) with
      | none => simp
      | some l =>
        have key : ∀ (bs : List Nat) (wo2 : Nat), wo2 < 16777216 → (∀ i ∈ bs, i < 24 ∧ wo2.testBit i = false) → bs.Nodup → (∀ j, wo2.testBit j = true → x.testBit j = false) → (∀ i ∈ bs, x.testBit i = false) → (hitBits (hitAll alts k) x wo2 bs).Nodup ∧ ∀ T ∈ hitBits (hitAll alts k) x wo2 bs, ∀ j, wo2.testBit j = true → T.testBit j = false := by
          intro bs
          induction bs with
          | nil => intro wo2 _ _ _ _ _; exact ⟨List.nodup_nil, fun T h => by cases h⟩
          | cons i r ihb =>
            intro wo2 hw2 hb2 hnd hd2 hx2
            obtain ⟨i24, iw⟩ := hb2 i (List.mem_cons_self ..)
            have hd3 : ∀ m, wo2.testBit m = true → (x ||| 2 ^ i).testBit m = false := by
              intro m hm
              rw [Nat.testBit_or, hd2 m hm, Nat.testBit_two_pow, Bool.false_or]
              refine decide_eq_false fun e => ?_
              subst e
              rw [hm] at iw; cases iw
            have h1 := hit_nodup alts hal k (x ||| 2 ^ i) wo2 (or_lt hx i24) hw2 hd3
            obtain ⟨h2, h3⟩ := ihb (wo2 ||| 2 ^ i) (or_lt hw2 i24) (fun m hm => ⟨(hb2 m (List.mem_cons_of_mem _ hm)).1, by
                rw [Nat.testBit_or, (hb2 m (List.mem_cons_of_mem _ hm)).2, Nat.testBit_two_pow, Bool.false_or]
                refine decide_eq_false fun e => ?_
                subst e
                exact (List.nodup_cons.1 hnd).1 hm⟩) (List.nodup_cons.1 hnd).2 (fun m hm => by
                rw [Nat.testBit_or, Bool.or_eq_true] at hm
                rcases hm with hm | hm
                · exact hd2 m hm
                · rw [Nat.testBit_two_pow] at hm
                  obtain rfl := of_decide_eq_true hm
                  exact hx2 _ (List.mem_cons_self ..)) (fun m hm => hx2 m (List.mem_cons_of_mem _ hm))
            rw [hitBits]
            refine ⟨List.nodup_append.2 ⟨h1, h2, fun a ha b hb e => ?_⟩, fun T hT j hj => ?_⟩
            · subst e
              have e1 := (hit_sound alts k _ _ a ha).2.2 i (by rw [Nat.testBit_or, Nat.testBit_two_pow]; simp)
              have e2 := h3 a hb i (by rw [Nat.testBit_or, Nat.testBit_two_pow]; simp)
              rw [e1] at e2; cases e2
            · rcases List.mem_append.1 hT with hT | hT
              · exact hit_without alts k _ _ T hw2 hd3 hT j hj
              · exact h3 T hT j (by rw [Nat.testBit_or, hj]; rfl)
        have hl0 : (l &&& x == 0) = true := List.find?_some (p := fun l => l &&& x == 0) hf
        refine (key _ wo hw (fun i hi => ?_) ?_ hd (fun i hi => and_zero_bit hl0 (andN_bit (bitsN_mem.1 hi).2))).1
        · obtain ⟨h1, h2⟩ := bitsN_mem.1 hi
          rw [andN_bits hw h1, Bool.and_eq_true] at h2
          exact ⟨h1, by simpa using h2.2⟩
        · unfold bitsN
          exact List.Nodup.sublist List.filter_sublist List.nodup_range
theorem hits_iff (alts : List Nat) (hal : ∀ l ∈ alts, l < 16777216) {T : Nat} : T ∈ hitAll alts 25 0 0 ↔ T < 16777216 ∧ HitsM alts T ∧ neededB alts T = true := by
  constructor
  · intro h
    obtain ⟨h1, h2, _⟩ := hit_sound alts 25 0 0 T h
    exact ⟨hit_lt alts hal 25 0 0 T (by decide) h, h1, h2⟩
  · rintro ⟨h1, h2, h3⟩
    refine hit_complete alts hal T h1 h2 h3 25 0 0 (by decide) (by decide) (fun i hi => by rw [Nat.zero_testBit] at hi; cases hi) (fun j hj => by rw [Nat.zero_testBit] at hj; cases hj) ?_
    have := bitsN_len T
    omega
theorem hits_nodup (alts : List Nat) (hal : ∀ l ∈ alts, l < 16777216) : (hitAll alts 25 0 0).Nodup :=
  hit_nodup alts hal 25 0 0 (by decide) (by decide) (fun j hj => by rw [Nat.zero_testBit] at hj; cases hj)
end Go.Proofs.YtbmcigakiibncaaGreatDoor.H
namespace Go.Proofs.YtbmcigakiibncaaGreatDoor.H
open Go.RowKit Go.Proofs.YtbmcigakiibncaaGreatDoorW.PrintWords Go.Proofs.YtbmcigakiibncaaGreatDoorW.PrintLast Go.Proofs.YtbmcigakiibncaaGreatDoorW.PrintMore
open Go.Proofs.YtbmcigakiibncaaGreatDoor.Q (S28 k28 S83 k83)
set_option linter.unusedVariables false
def sgI (z : Int) : Int := if z < 0 then -1 else if z = 0 then 0 else 1
theorem sgI_neg (z : Int) : sgI z < 0 ↔ z < 0 := by unfold sgI; split <;> (try split) <;> omega
theorem sgI_zero (z : Int) : sgI z = 0 ↔ z = 0 := by unfold sgI; split <;> (try split) <;> omega
def allF (p : Nat → Bool) : Nat → Nat → Bool
  | _, 0 => true
  | j, d + 1 => p j && allF p (j + 1) d
theorem allF_iff (p : Nat → Bool) (d : Nat) : ∀ j, allF p j d = true ↔ ∀ i, j ≤ i → i < j + d → p i = true := by
  induction d with
  | zero => intro j; simp [allF]; omega
  | succ d ih =>
    intro j
    rw [allF, Bool.and_eq_true, ih]
    constructor
    · rintro ⟨h1, h2⟩ i hi hl
      rcases Nat.eq_or_lt_of_le hi with rfl | h
      · exact h1
      · exact h2 i (by omega) (by omega)
    · exact fun h => ⟨h j (Nat.le_refl _) (by omega), fun i hi hl => h i (by omega) (by omega)⟩
theorem beforeR_ev (x y : Nd) : Ev (fun k => Q.virgationref09_Before.f k x.f0 x.f1 y.f0 y.f1) (sgI (befI x y)) := by
  unfold Q.virgationref09_Before.f
  by_cases h : x.f0 = y.f0
  · rw [show befI x y = x.f1 - y.f1 by simp [befI, h]]
    simp only [if_pos h]
    refine ev_end fun k => ?_
    simp only [Q.virgationref09_Before.j0, sgI]
    by_cases h1 : x.f1 < y.f1
    · rw [decide_eq_true h1, if_pos rfl, if_pos (show x.f1 - y.f1 < 0 by omega)]
    · rw [decide_eq_false h1, if_neg (by simp), if_neg (show ¬ x.f1 - y.f1 < 0 by omega)]
      by_cases h2 : x.f1 = y.f1
      · rw [if_pos (show (x.f0 == y.f0 && x.f1 == y.f1) = true by rw [h, h2]; simp), if_pos (show x.f1 - y.f1 = 0 by omega)]
      · rw [if_neg (by rw [Bool.and_eq_true, beq_iff_eq, beq_iff_eq]; exact fun hh => h2 hh.2), if_neg (show ¬ x.f1 - y.f1 = 0 by omega)]
  · rw [show befI x y = x.f0 - y.f0 by simp [befI, h]]
    by_cases h1 : x.f0 < y.f0
    · simp only [if_neg h, if_pos h1]
      refine ev_end fun k => ?_
      simp only [Q.virgationref09_Before.j0, sgI]
      rw [if_pos trivial, if_pos (show x.f0 - y.f0 < 0 by omega)]
    · simp only [if_neg h, if_neg h1]
      refine ev_end fun k => ?_
      simp only [Q.virgationref09_Before.j0, sgI]
      rw [if_neg (by simp), if_neg (by rw [Bool.and_eq_true, beq_iff_eq, beq_iff_eq]; exact fun hh => h hh.1), if_neg (show ¬ x.f0 - y.f0 < 0 by omega), if_neg (show ¬ x.f0 - y.f0 = 0 by omega)]
theorem rdN_at {l : List Nd} {j : Nat} : Q.rd_T83 l (j : Int) = l.getD j zN := by simp [Q.rd_T83, zN, Q.z83]
theorem getD_memD {α : Type} {l : List α} {i : Nat} (d : α) (h : i < l.length) : l.getD i d ∈ l := by
  rw [List.getD_eq_getElem?_getD, List.getElem?_eq_getElem h]; exact List.getElem_mem h
theorem wrap_pred {j : Nat} (h : j < 9223372036854775807) : wrap64 (((j + 1 : Nat) : Int) - 1) = (j : Int) := by unfold wrap64; omega
theorem compareR_ev (a b : List Nd) (ha : a.length ≤ 9223372036854775807) (d : Nat) : ∀ j : Nat, a.length - j = d → j ≤ a.length → j ≤ b.length → Ev (fun k => Q.virgationref09_Compare.l0 k a b (j : Int)) (sgI (cmpL (a.drop j) (b.drop j))) := by
  induction d with
  | zero =>
    intro j hd hj hjb
    rw [List.drop_eq_nil_of_le (show a.length ≤ j by omega)]
    have h : Ev (fun k => Q.virgationref09_Compare.j1 k a b (j : Int) false) (sgI (cmpL [] (b.drop j))) := by
      refine ev_end fun k => ?_
      simp only [Q.virgationref09_Compare.j1]
      rw [if_neg (by simp)]
      cases e : b.drop j with
      | nil =>
        have := List.drop_eq_nil_iff.1 e
        rw [if_neg (by omega), if_neg (by omega)]; rfl
      | cons y r =>
        have : j < b.length := by
          apply Classical.byContradiction; intro hc
          rw [List.drop_eq_nil_of_le (by omega)] at e; cases e
        rw [if_pos (by omega)]; rfl
    refine ev_next h fun k => ?_
    simp only [Q.virgationref09_Compare.l0]
    rw [if_neg (by omega)]
  | succ d ih =>
    intro j hd hj hjb
    have hja : j < a.length := by omega
    by_cases hb : j < b.length
    · have e1 : a.drop j = a.getD j zN :: a.drop (j + 1) := by rw [List.drop_eq_getElem_cons hja]; simp [List.getD_eq_getElem?_getD, hja]
      have e2 : b.drop j = b.getD j zN :: b.drop (j + 1) := by rw [List.drop_eq_getElem_cons hb]; simp [List.getD_eq_getElem?_getD, hb]
      have h : Ev (fun k => Q.virgationref09_Compare.j1 k a b (j : Int) true) (sgI (cmpL (a.drop j) (b.drop j))) := by
        refine ev_next (f := fun k => (Q.virgationref09_Before.f k ((Q.rd_T83 a j).f0) ((Q.rd_T83 a j).f1) ((Q.rd_T83 b j).f0) ((Q.rd_T83 b j).f1)).bind fun t => if t = 0 then Q.virgationref09_Compare.l0 k a b ((j + 1 : Nat) : Int) else some t) (Ev.bind (beforeR_ev (Q.rd_T83 a j) (Q.rd_T83 b j)) ?_) fun k => ?_
        · rw [rdN_at, rdN_at, e1, e2]
          by_cases hz : befI (a.getD j zN) (b.getD j zN) = 0
          · rw [cmpL, if_neg (fun h => h hz)]
            simp only [if_pos ((sgI_zero _).2 hz)]
            exact ih (j + 1) (by omega) (by omega) (by omega)
          · rw [cmpL, if_pos hz]
            simp only [if_neg (fun h => hz ((sgI_zero _).1 h))]
            exact ev_end fun k => rfl
        · simp only [Q.virgationref09_Compare.j1]
          rw [if_pos trivial, if_pos (by omega), if_pos (by omega), if_pos (by omega), wrap_succ (by omega) (by omega)]
          rfl
      refine ev_next h fun k => ?_
      simp only [Q.virgationref09_Compare.l0]
      rw [if_pos (by omega), decide_eq_true (by omega : (j : Int) < (b.length : Int))]
    · have h : Ev (fun k => Q.virgationref09_Compare.j1 k a b (j : Int) false) (sgI (cmpL (a.drop j) (b.drop j))) := by
        refine ev_end fun k => ?_
        simp only [Q.virgationref09_Compare.j1]
        rw [if_neg (by simp), if_neg (by omega), if_pos (by omega), List.drop_eq_nil_of_le (show b.length ≤ j by omega), List.drop_eq_getElem_cons hja, cmpL]
        rfl
      refine ev_next h fun k => ?_
      simp only [Q.virgationref09_Compare.l0]
      rw [if_pos (by omega), decide_eq_false (by omega : ¬ (j : Int) < (b.length : Int))]
theorem compareF_ev (a b : List Nd) (ha : a.length ≤ 9223372036854775807) : Ev (fun k => Q.virgationref09_Compare.f k a b) (sgI (cmpL a b)) := compareR_ev a b ha _ 0 rfl (Nat.zero_le _) (Nat.zero_le _)
def altAt (l : List Nd) (r n : Int) (i : Nat) : Bool := !(nbad r n (l.getD i zN)) && (decide (i = 0) || decide (befI (l.getD (i - 1) zN) (l.getD i zN) < 0))
def altB (r n : Int) (l : List Nd) : Bool := allF (altAt l r n) 0 l.length
theorem altB_eq (r n : Int) (l : List Nd) : altB r n l = (!(l.any (nbad r n)) && upN l) := by
  rw [Bool.eq_iff_iff, Bool.and_eq_true]
  unfold altB upN
  rw [allF_iff, List.all_eq_true]
  constructor
  · intro h
    constructor
    · rw [Bool.not_eq_true']
      cases e : l.any (nbad r n) with
      | false => rfl
      | true =>
        obtain ⟨x, hx, hb⟩ := List.any_eq_true.1 e
        obtain ⟨i, hi, rfl⟩ := List.mem_iff_getElem.1 hx
        have h1 := h i (Nat.zero_le _) (by omega)
        unfold altAt at h1
        rw [List.getD_eq_getElem?_getD, List.getElem?_eq_getElem hi] at h1
        simp only [Option.getD_some, hb] at h1
        cases h1
    · intro i hi
      have hi := List.mem_range.1 hi
      have h1 := h (i + 1) (Nat.zero_le _) (by omega)
      unfold altAt at h1
      rw [Bool.and_eq_true] at h1
      simpa using h1.2
  · rintro ⟨h1, h2⟩ i _ hi
    unfold altAt
    rw [Bool.and_eq_true]
    constructor
    · rw [Bool.not_eq_true']
      rw [Bool.not_eq_true'] at h1
      cases e : nbad r n (l.getD i zN) with
      | false => rfl
      | true => rw [List.any_eq_true.2 ⟨_, getD_memD zN (show i < l.length by omega), e⟩] at h1; cases h1
    · by_cases h0 : i = 0
      · simp [h0]
      · have h3 := h2 (i - 1) (List.mem_range.2 (by omega))
        rw [show i - 1 + 1 = i by omega] at h3
        rw [h3, Bool.or_true]
def altLAt (l : List (List Nd)) (r n : Int) (i : Nat) : Bool := altB r n (l.getD i []) && (decide (i = 0) || decide (cmpL (l.getD (i - 1) []) (l.getD i []) < 0))
theorem rdL2_at {l : List (List Nd)} {j : Nat} : Q.rd_L2 l (j : Int) = l.getD j [] := by simp [Q.rd_L2]
def altsB (r n : Int) (l : List (List Nd)) : Bool := decide (l.length ≤ 12) && allF (altLAt l r n) 0 l.length
theorem altsB_eq (r n : Int) (l : List (List Nd)) : altsB r n l = (decide (l.length ≤ 12) && l.all (altB r n) && upL l) := by
  rw [Bool.eq_iff_iff]
  unfold altsB upL
  rw [Bool.and_eq_true, Bool.and_eq_true, Bool.and_eq_true, allF_iff, List.all_eq_true, List.all_eq_true]
  constructor
  · rintro ⟨h0, h⟩
    refine ⟨⟨h0, fun x hx => ?_⟩, fun i hi => ?_⟩
    · obtain ⟨i, hi, rfl⟩ := List.mem_iff_getElem.1 hx
      have h1 := h i (Nat.zero_le _) (by omega)
      unfold altLAt at h1
      rw [List.getD_eq_getElem?_getD, List.getElem?_eq_getElem hi, Bool.and_eq_true] at h1
      exact h1.1
    · have hi := List.mem_range.1 hi
      have h1 := h (i + 1) (Nat.zero_le _) (by omega)
      unfold altLAt at h1
      rw [Bool.and_eq_true] at h1
      simpa using h1.2
  · rintro ⟨⟨h0, h1⟩, h2⟩
    refine ⟨h0, fun i _ hi => ?_⟩
    unfold altLAt
    rw [Bool.and_eq_true]
    refine ⟨h1 _ (getD_memD [] (by omega)), ?_⟩
    by_cases h0 : i = 0
    · simp [h0]
    · have h3 := h2 (i - 1) (List.mem_range.2 (by omega))
      rw [show i - 1 + 1 = i by omega] at h3
      rw [h3, Bool.or_true]
end Go.Proofs.YtbmcigakiibncaaGreatDoor.H
namespace Go.Proofs.YtbmcigakiibncaaGreatDoor.H
open Go.RowKit Go.Proofs.YtbmcigakiibncaaGreatDoorW.PrintWords Go.Proofs.YtbmcigakiibncaaGreatDoorW.PrintLast Go.Proofs.YtbmcigakiibncaaGreatDoorW.PrintMore
open Go.Proofs.YtbmcigakiibncaaGreatDoor.Q (S28 k28 S83 k83)
set_option linter.unusedVariables false
theorem C_kids {α : Type} {e : TypeId} {d : Kd α} {w : World} {A : Option Addr} {xs : List (List α)} (h : Kd.C (Kd.slice e d) w A xs.length xs) {x : List α} (hx : x ∈ xs) : ∃ A1, Kd.C d w A1 x.length x := by
  obtain ⟨i, hi, rfl⟩ := List.mem_iff_getElem.1 hx
  obtain ⟨ad, c, e, _, hK, _⟩ := Kd.C_get h [] (i : Int) (by omega) (by omega)
  obtain ⟨A1, c1, _, _, h1⟩ := hK
  rw [Int.toNat_natCast, List.getD_eq_getElem?_getD, List.getElem?_eq_getElem hi] at h1
  exact ⟨A1, h1⟩
theorem rk6_eq : ∀ (k : Nat) (x0 x5 : List Int) (x6 x7 : Int), Q.virgationref06_Ranks.l0 k x0 x5 x6 x7 = Q.tree_Ranks.l0 k x0 x5 x6 x7
  | 0, _, _, _, _ => rfl
  | k + 1, x0, x5, x6, x7 => by
    simp only [Q.virgationref06_Ranks.l0, Q.tree_Ranks.l0]
    rw [rk6_eq k]
theorem ranks6_ev (l : List Int) (hm : l.length ≤ 9223372036854775807) : Ev (fun k => Q.virgationref06_Ranks.f k l) (ranksB l) :=
  Ev.congr (fun k => rk6_eq k l l (l.length : Int) 0) (ranks_ev l hm)
def rowR (rk : List Int) (n : Int) (row : List (List (List Nd))) : Bool := decide (row.length = rk.length) && allF (fun f => altsB (rd rk (f : Int)) n (row.getD f [])) 0 row.length
def isR (rk : List Int) (st : Int) (M : Mv) : Bool := ranksB rk && decide (1 ≤ M.length) && decide (M.length ≤ 6) && decide (0 ≤ st) && decide (st < (M.length : Int)) && allF (fun q => rowR rk (M.length : Int) (M.getD q [])) 0 M.length
theorem up_len {l : List Nat} {m : Nat} (h : ∀ x ∈ l, x < m) (hu : ∀ i, i + 1 < l.length → l.getD i 0 < l.getD (i + 1) 0) : l.length ≤ m := by
  have key : ∀ i, i < l.length → i ≤ l.getD i 0 := by
    intro i
    induction i with
    | zero => intro _; omega
    | succ i ih =>
      intro hi
      have := ih (by omega)
      have := hu i hi
      omega
  rcases Nat.eq_zero_or_pos l.length with h0 | h0
  · omega
  · have h1 := key (l.length - 1) (by omega)
    have h2 := h _ (getD_memD 0 (show l.length - 1 < l.length by omega))
    omega
theorem alt_short {r n : Int} {l : List Nd} (hr : r ≤ 4) (hn : n ≤ 6) (h1 : l.any (nbad r n) = false) (h2 : upN l = true) : l.length ≤ 24 := by
  have hb : ∀ x ∈ l, 0 ≤ x.f0 ∧ x.f0 < 4 ∧ 0 ≤ x.f1 ∧ x.f1 < 6 := by
    intro x hx
    cases e : nbad r n x with
    | true => rw [List.any_eq_true.2 ⟨x, hx, e⟩] at h1; cases h1
    | false =>
      unfold nbad at e
      simp only [Bool.or_eq_false_iff, decide_eq_false_iff_not] at e
      omega
  have key := up_len (l := l.map fun x => x.f0.toNat * 6 + x.f1.toNat) (m := 24) (by
    intro x hx
    obtain ⟨y, hy, rfl⟩ := List.mem_map.1 hx
    have := hb y hy
    omega) (by
    intro i hi
    rw [List.length_map] at hi
    have h3 := List.all_eq_true.1 h2 i (List.mem_range.2 (by omega))
    have hx := hb _ (getD_memD zN (show i < l.length by omega))
    have hy := hb _ (getD_memD zN hi)
    have e : ∀ j, j < l.length → (l.map fun x : Nd => x.f0.toNat * 6 + x.f1.toNat).getD j 0 = (l.getD j zN).f0.toNat * 6 + (l.getD j zN).f1.toNat := by
      intro j hj
      simp [List.getD_eq_getElem?_getD, hj]
    rw [e i (by omega), e (i + 1) hi]
    simp only [decide_eq_true_eq] at h3
    unfold befI at h3
    split at h3 <;> omega)
  rwa [List.length_map] at key
theorem altB_list {r n : Int} {l : List Nd} (hr : r ≤ 4) (hn : n ≤ 6) : altB r n l = listOk r n l := by
  rw [altB_eq]
  unfold listOk
  cases h1 : l.any (nbad r n) with
  | true => simp
  | false =>
    cases h2 : upN l with
    | false => simp
    | true => rw [decide_eq_true (alt_short hr hn h1 h2)]; rfl
theorem altsB_ok {r n : Int} {l : List (List Nd)} (hr : r ≤ 4) (hn : n ≤ 6) : altsB r n l = altsOk r n l := by
  rw [altsB_eq]
  unfold altsOk
  rw [show altB r n = listOk r n from funext fun x => altB_list hr hn]
theorem isR_eq (rk : List Int) (st : Int) (M : Mv) : isR rk st M = auB rk st M := by
  unfold isR auB
  cases h0 : ranksB rk with
  | false => simp only [Bool.false_and]
  | true =>
    by_cases h2 : M.length ≤ 6
    · have hrk : ∀ f : Nat, f < rk.length → rd rk (f : Int) ≤ 4 := by
        intro f hf
        unfold ranksB at h0
        simp only [Bool.and_eq_true, decide_eq_true_eq, List.all_eq_true] at h0
        rw [rd_at hf]
        exact (h0.1 _ (List.getElem_mem hf)).2
      have hrow : ∀ row, rowR rk (M.length : Int) row = mrowOk rk (M.length : Int) row := by
        intro row
        unfold rowR mrowOk
        by_cases hl : row.length = rk.length
        · rw [decide_eq_true hl, Bool.true_and, Bool.true_and, hl, Bool.eq_iff_iff, allF_iff, List.all_eq_true]
          constructor
          · intro h f hf
            have hf := List.mem_range.1 hf
            have := h f (Nat.zero_le _) (by omega)
            rwa [altsB_ok (hrk f hf) (by omega)] at this
          · intro h f _ hf
            have := h f (List.mem_range.2 (by omega))
            rwa [← altsB_ok (hrk f (by omega)) (by omega)] at this
        · rw [decide_eq_false hl, Bool.false_and, Bool.false_and]
      have e : allF (fun q => rowR rk (M.length : Int) (M.getD q [])) 0 M.length = M.all (mrowOk rk (M.length : Int)) := by
        rw [Bool.eq_iff_iff, allF_iff, List.all_eq_true]
        constructor
        · intro h x hx
          obtain ⟨i, hi, rfl⟩ := List.mem_iff_getElem.1 hx
          have := h i (Nat.zero_le _) (by omega)
          rw [hrow, List.getD_eq_getElem?_getD, List.getElem?_eq_getElem hi] at this
          exact this
        · intro h i _ hi
          rw [hrow]
          exact h _ (getD_memD [] (by omega))
      rw [e]
    · rw [decide_eq_false h2]; simp
end Go.Proofs.YtbmcigakiibncaaGreatDoor.H
namespace Go.Proofs.YtbmcigakiibncaaGreatDoor.H
open Go.RowKit Go.Proofs.YtbmcigakiibncaaGreatDoorW.PrintWords Go.Proofs.YtbmcigakiibncaaGreatDoorW.PrintLast Go.Proofs.YtbmcigakiibncaaGreatDoorW.PrintMore
set_option linter.unusedVariables false
set_option linter.unusedSimpArgs false
theorem rbefore_calls (x y : Nd) (W : World) : Calls Tryz.prog 114 #[.agg #[.int .i64 x.f0, .int .i64 x.f1], .agg #[.int .i64 y.f0, .int .i64 y.f1]] W fun E w' => E = .returned (.int .i64 (sgI (befI x y))) ∧ Below W.heap.size W w' := by
  obtain ⟨k, hk⟩ := (beforeR_ev x y).rounds
  exact Q.virgationref09_Before.calls k x.f0 x.f1 y.f0 y.f1 _ W hk
theorem altB_false {r n : Int} {l : List Nd} {j : Nat} (hj : j < l.length) (h : altAt l r n j = false) : altB r n l = false := by
  cases e : altB r n l with
  | false => rfl
  | true =>
    unfold altB at e
    rw [allF_iff] at e
    rw [e j (Nat.zero_le _) (by omega)] at h; cases h
theorem altB_true {r n : Int} {l : List Nd} (h : ∀ i, i < l.length → altAt l r n i = true) : altB r n l = true := by
  unfold altB
  rw [allF_iff]
  exact fun i _ hi => h i (by omega)
theorem altAt_bad {l : List Nd} {r n : Int} {j : Nat} (h : nbad r n (l.getD j zN) = true) : altAt l r n j = false := by unfold altAt; rw [h]; rfl
theorem altAt_zero {l : List Nd} {r n : Int} (h : nbad r n (l.getD 0 zN) = false) : altAt l r n 0 = true := by unfold altAt; rw [h]; rfl
theorem altAt_succ {l : List Nd} {r n : Int} {i : Nat} (h : nbad r n (l.getD (i + 1) zN) = false) : altAt l r n (i + 1) = decide (befI (l.getD i zN) (l.getD (i + 1) zN) < 0) := by unfold altAt; rw [h]; simp
theorem nbad_q {r n : Int} {x : Nd} : nbad r n x = (decide (x.f0 < 0) || decide (x.f0 ≥ r) || decide (x.f1 < 0) || decide (x.f1 ≥ n)) := rfl
structure NB (w : World) (b : Nat) (x : Nd) (W : World) : Prop where
  hb : Below w.heap.size w W
  box : W.heap[b]? = some (.cells #[.int .i64 x.f0, .int .i64 x.f1] 83 (0, 0))
theorem NB.below {w W W1 : World} {b : Nat} {x : Nd} (h : NB w b x W) (hb : Below W.heap.size W W1) : NB w b x W1 := ⟨below_then h.hb h.hb.size hb, blk_below h.box hb⟩
theorem NB.cells {w W : World} {b : Nat} {x : Nd} (h : NB w b x W) : W.cell? ⟨b, 0, none⟩ = some (.int .i64 x.f0) ∧ W.cell? ⟨b, 1, none⟩ = some (.int .i64 x.f1) :=
  ⟨(blk_cell h.box 0).trans rfl, (blk_cell h.box 1).trans rfl⟩
set_option maxHeartbeats 8000000 in
set_option maxRecDepth 100000 in
theorem altR_calls (A : Option Addr) (c : Nat) (l : List Nd) (r n : Int) (w : World) (hr : Kd.C Q.k83 w A l.length l) :
    Calls Tryz.prog 93 #[.slice A l.length c, .int .i64 r, .int .i64 n] w fun e w' => e = .returned (.bool (altB r n l)) ∧ Below w.heap.size w w' := by
  have HR := Aside0.mk hr
  have HM := Aside0.mk (show l.length ≤ 9223372036854775807 from hr.2.1)
  clear hr
  go_enter Tryz.func93, Tryz.ntmps93
  go_wp2
  go_loopg [11] l.length (fun gg v11 wi => ∃ j : Nat, j ≤ l.length ∧ l.length - j ≤ gg ∧ v11 = .int .i64 j ∧ Aside0 (Below w.heap.size w wi) ∧ Aside0 (∀ i, i < j → altAt l r n i = true))
  case atStart => exact ⟨0, Nat.zero_le _, Nat.le_refl _, rfl, ⟨Below.refl _ _⟩, ⟨fun i hi => absurd hi (Nat.not_lt_zero _)⟩⟩
  case round =>
    obtain ⟨j, hj, hgg, rfl, HB, HP⟩ := hrel
    by_cases hlt : j < l.length
    · have hltz : (j : Int) < (l.length : Int) := by omega
      have HLT := Aside0.mk hlt
      have HKZ := Aside0.mk (show wrap64 ((j : Int) + 1) = ((j + 1 : Nat) : Int) by rw [wr_id (by omega) (by have := HM.out; omega)]; rfl)
      obtain ⟨ad, e, hk, hkb⟩ := at_need HR.out j hlt
      subst e
      replace hk := pw_cell_below HB.out hk
      replace hkb := pw_cell_below HB.out hkb
      have HF := Aside0.mk (show nbad r n (l.getD j zN) = true → altB r n l = false from fun h => altB_false hlt (altAt_bad h))
      have HZ := Aside0.mk (show j = 0 → nbad r n (l.getD j zN) = false → ∀ i, i < j + 1 → altAt l r n i = true from fun h0 hnb i hi => by subst h0; rw [show i = 0 by omega]; exact altAt_zero hnb)
      have HVF := Aside0.mk (show ∀ i, j = i + 1 → nbad r n (l.getD j zN) = false → ¬ befI (l.getD i zN) (l.getD j zN) < 0 → altB r n l = false from fun i e hnb h => altB_false hlt (by subst e; rw [altAt_succ hnb]; exact decide_eq_false h))
      have HVT := Aside0.mk (show ∀ i, j = i + 1 → nbad r n (l.getD j zN) = false → befI (l.getD i zN) (l.getD j zN) < 0 → ∀ i', i' < j + 1 → altAt l r n i' = true from fun i e hnb h i' hi' => by
          rcases Nat.lt_or_ge i' j with h2 | h2
          · exact HP.out i' h2
          · rw [show i' = j by omega]; subst e; rw [altAt_succ hnb]; exact decide_eq_true h)
      clear HP
      generalize l.getD j zN = x at *
      go_upto_region 4 with (fail)
      have HN := Aside0.mk (NB.mk (below_alloc HB.out (.cells #[.int .i64 x.f0, .int .i64 x.f1] 83)) (blk_new wr (.cells #[.int .i64 x.f0, .int .i64 x.f1] 83)))
      generalize wr.alloc (.cells #[.int .i64 x.f0, .int .i64 x.f1] 83) = W8 at *
      have hc3 := (HN.out).cells.1
      have hc4 := (HN.out).cells.2
      clear hk hkb
      generalize wr.heap.size = b at *
      cases q1 : decide (x.f0 < 0) with
      | true =>
        have HV := Aside0.mk (HF.out (by rw [nbad_q, q1]; rfl))
        go_quiet (fail)
        go_wp2
        go_ret
        exact ⟨by rw [HV.out]; rfl, by apply pw_below_drewN; exact (HN.out).hb⟩
      | false =>
      cases q2 : decide (x.f0 ≥ r) with
      | true =>
        have HV := Aside0.mk (HF.out (by rw [nbad_q, q1, q2]; rfl))
        go_quiet (fail)
        go_wp2
        go_ret
        exact ⟨by rw [HV.out]; rfl, by apply pw_below_drewN; exact (HN.out).hb⟩
      | false =>
      cases q3 : decide (x.f1 < 0) with
      | true =>
        have HV := Aside0.mk (HF.out (by rw [nbad_q, q1, q2, q3]; rfl))
        go_quiet (fail)
        go_wp2
        go_ret
        exact ⟨by rw [HV.out]; rfl, by apply pw_below_drewN; exact (HN.out).hb⟩
      | false =>
      cases q4 : decide (x.f1 ≥ n) with
      | true =>
        have HV := Aside0.mk (HF.out (by rw [nbad_q, q1, q2, q3, q4]; rfl))
        go_quiet (fail)
        go_wp2
        go_ret
        exact ⟨by rw [HV.out]; rfl, by apply pw_below_drewN; exact (HN.out).hb⟩
      | false =>
      have HNB := Aside0.mk (show nbad r n x = false by rw [nbad_q, q1, q2, q3, q4]; rfl)
      cases j with
      | zero =>
        have HT := Aside0.mk (HZ.out rfl HNB.out)
        have q5 : decide (((0 : Nat) : Int) > 0) = false := by decide
        go_quiet (fail)
        go_wp2
        go_roundg (l.length - (0 + 1))
        case measure => have := HLT.out; omega
        case rel => exact ⟨0 + 1, HLT.out, Nat.le_refl _, by first | rw [HKZ.out] | rfl, ⟨by first | (apply pw_below_drewN; exact (HN.out).hb) | exact (HN.out).hb⟩, HT⟩
      | succ i =>
        obtain ⟨ad', e, hk, hkb⟩ := at_need HR.out i (by omega)
        cases e
        replace hk := pw_cell_below (HN.out).hb hk
        replace hkb := pw_cell_below (HN.out).hb hkb
        have HBE := Aside0.mk (rbefore_calls (l.getD i zN) x)
        have HVF' := Aside0.mk (HVF.out i rfl HNB.out)
        have HVT' := Aside0.mk (HVT.out i rfl HNB.out)
        clear HF HVF HVT HZ
        generalize l.getD i zN = y at *
        generalize befI y x = v at *
        have HS := Aside0.mk (sgI_neg v)
        generalize sgI v = sv at *
        have q5 : decide (((i + 1 : Nat) : Int) > 0) = true := decide_eq_true (by omega)
        have q6 : wrap64 (((i + 1 : Nat) : Int) - 1) = (i : Int) := wrap_pred (by have := HM.out; have := HLT.out; omega)
        have q7 : (i : Int) < (l.length : Int) := by omega
        have q9 : (0 : Int) ≤ (i : Int) := by omega
        have q10 : wrap64 (i : Int) = (i : Int) := wr_id (by omega) (by have := HM.out; have := HLT.out; omega)
        have hwj : IntKind.i64.wrap (i : Int) = (i : Int) := by rw [i64_w]; exact q10
        have HN0 := Aside0.mk ((HN.out).below (below_drew (Below.refl _ _)))
        have hk' := pw_cell_below (below_drew (Below.refl W8.heap.size W8)) hk
        have hkb' := pw_cell_below (below_drew (Below.refl W8.heap.size W8)) hkb
        cases q8 : decide (sv ≥ 0) with
        | true =>
          have HV := Aside0.mk (HVF'.out (fun h => by have := (HS.out).2 h; have := of_decide_eq_true q8; omega))
          go_region_held3 (fun w' => (w'.cell? ⟨b, 0, none⟩ = some (.int .i64 x.f0) ∧ w'.cell? ⟨b, 1, none⟩ = some (.int .i64 x.f1)) ∧ (w'.cell? (ad.add (i * 2)) = some (.int .i64 y.f0) ∧ w'.cell? ⟨(ad.add (i * 2)).block, (ad.add (i * 2)).off + 1, none⟩ = some (.int .i64 y.f1)))
            (first | exact ⟨(HN2.out).cells, pw_cell_below HB2.out hk', pw_cell_below HB2.out hkb'⟩ | exact ⟨(HN0.out).cells, hk', hkb'⟩ | exact ⟨(HN.out).cells, hk, hkb⟩ | fail)
            (first | (go_at_call 114; (with_reducible refine (HBE.out _).mono ?_); rintro E w2 ⟨rfl, hb⟩; have HN2 := Aside0.mk ((HN0.out).below hb); have HB2 := Aside0.mk hb; clear hb) | fail)
          go_wp2
          go_ret
          exact ⟨by rw [HV.out]; rfl, (HN2.out).hb⟩
        | false =>
          have HV := Aside0.mk (HVT'.out ((HS.out).1 (by have := of_decide_eq_false q8; omega)))
          go_region_held3 (fun w' => (w'.cell? ⟨b, 0, none⟩ = some (.int .i64 x.f0) ∧ w'.cell? ⟨b, 1, none⟩ = some (.int .i64 x.f1)) ∧ (w'.cell? (ad.add (i * 2)) = some (.int .i64 y.f0) ∧ w'.cell? ⟨(ad.add (i * 2)).block, (ad.add (i * 2)).off + 1, none⟩ = some (.int .i64 y.f1)))
            (first | exact ⟨(HN2.out).cells, pw_cell_below HB2.out hk', pw_cell_below HB2.out hkb'⟩ | exact ⟨(HN0.out).cells, hk', hkb'⟩ | exact ⟨(HN.out).cells, hk, hkb⟩ | fail)
            (first | (go_at_call 114; (with_reducible refine (HBE.out _).mono ?_); rintro E w2 ⟨rfl, hb⟩; have HN2 := Aside0.mk ((HN0.out).below hb); have HB2 := Aside0.mk hb; clear hb) | fail)
          go_wp2
          go_roundg (l.length - (i + 1 + 1))
          case measure => have := HLT.out; omega
          case rel => exact ⟨i + 1 + 1, HLT.out, Nat.le_refl _, by first | rw [HKZ.out] | exact congrArg (Value.int .i64) HKZ.out, ⟨(HN2.out).hb⟩, HV⟩
    · obtain rfl : j = l.length := by omega
      have HV := Aside0.mk (altB_true HP.out)
      clear HP hlt hj hgg
      go_wp2
      go_ret
      exact ⟨by rw [HV.out]; rfl, HB.out⟩
end Go.Proofs.YtbmcigakiibncaaGreatDoor.H
namespace Go.Proofs.YtbmcigakiibncaaGreatDoor.H
open Go.RowKit Go.Proofs.YtbmcigakiibncaaGreatDoorW.PrintWords Go.Proofs.YtbmcigakiibncaaGreatDoorW.PrintLast Go.Proofs.YtbmcigakiibncaaGreatDoorW.PrintMore
set_option linter.unusedVariables false
set_option linter.unusedSimpArgs false
theorem at_int {w : World} {A : Option Addr} {n : Nat} {xs : List Int} (h : Kd.C (Kd.int .i64) w A n xs) (i : Nat) (hi : i < n) :
    ∃ ad, A = some ad ∧ w.cell? (ad.add i) = some (.int .i64 (xs.getD i 0)) := by
  obtain ⟨ad, c, e, _, hK, hc0⟩ := Kd.C_get h 0 (i : Int) (by omega) (by omega)
  have hc : ∀ j u, c[j]? = some u → w.cell? (ad.add (i * 1 + j)) = some u := fun j u hj => by have := hc0 j u hj; rwa [Int.toNat_natCast] at this
  obtain rfl := hK
  exact ⟨ad, e, by have hq := hc 0 _ rfl; rwa [Nat.mul_one, Nat.add_zero] at hq⟩
theorem pb_start (w W : World) (x y z : Value) (hb : Below w.heap.size w W) (box : W.heap[w.heap.size]? = some (.cells #[x, y, z] 25 (0, 0))) :
    PB w W.heap.size x y z [] (W.alloc (.cells #[.pointer none, .slice none 0 0] 76)) :=
  ⟨hb.alloc hb.size _, blk_alloc box _, blk_lt box, .inl ⟨Nat.le_refl _, .slice none 0 0, blk_new W _, ⟨rfl, .inl ⟨rfl, rfl⟩⟩, fun h => by cases h⟩, by simp⟩
def PutE (rk : List Int) (st : Int) (M : Mv) (w : World) (e : Ending) (w' : World) : Prop := e = .returned (.tuple #[.string ⟨(putR rk st M).1.toArray⟩, .int .i64 (putR rk st M).2]) ∧ Below w.heap.size w w'
theorem getD_memI {l : List Int} {i : Nat} (h : i < l.length) : l.getD i 0 ∈ l := by
  rw [List.getD_eq_getElem?_getD, List.getElem?_eq_getElem h]; exact List.getElem_mem h
theorem getD_memX {α : Type} {l : List α} {i : Nat} (d : α) (h : i < l.length) : l.getD i d ∈ l := by
  rw [List.getD_eq_getElem?_getD, List.getElem?_eq_getElem h]; exact List.getElem_mem h
theorem itoaN_calls (k : Nat) (h : k < 100) (w : World) : Calls Tryz.prog 53 #[.int .i64 (k : Int)] w fun e w' => e = .returned (.string ⟨(dg k).toArray⟩) ∧ w' = w := Tryz.strconv_Itoa_small k h w
set_option maxHeartbeats 16000000 in
set_option maxRecDepth 100000 in
theorem put_calls (rk : List Int) (M : Mv) (st : Int) (A1 : Option Addr) (c1 : Nat) (A2 : Option Addr) (c2 : Nat) (w : World)
    (hr : Kd.C (Kd.int .i64) w A1 rk.length rk) (hc1 : rk.length ≤ c1) (hM : Kd.C kA3 w A2 M.length M) :
    Calls Tryz.prog 24 #[.agg #[.slice A1 rk.length c1, .int .i64 st, .slice A2 M.length c2]] w (PutE rk st M w) := by
  have HR := Aside0.mk hr
  have HM := Aside0.mk hM
  have hb0 := below_alloc (Below.refl w.heap.size w) (.cells #[.slice A1 rk.length c1, .int .i64 st, .slice A2 M.length c2] 25)
  have HCK := Aside0.mk (acheckG_calls rk M st A1 c1 A2 c2 _ (Kd.C_below hr hb0) hc1 (Kd.C_below hM hb0))
  have HB0 := Aside0.mk hb0
  have HX0 := Aside0.mk (blk_new w (.cells #[.slice A1 rk.length c1, .int .i64 st, .slice A2 M.length c2] 25))
  clear hr hc1 hM hb0
  go_enter Tryz.func24, Tryz.ntmps24
  go_upto_region 1 with (fail)
  generalize w.alloc (.cells #[.slice A1 rk.length c1, .int .i64 st, .slice A2 M.length c2] 25) = W1 at *
  have k0 : W1.cell? ⟨w.heap.size, 0, none⟩ = some (.slice A1 rk.length c1) := (blk_cell HX0.out 0).trans rfl
  have k1 : W1.cell? ⟨w.heap.size, 1, none⟩ = some (.int .i64 st) := (blk_cell HX0.out 1).trans rfl
  have k2 : W1.cell? ⟨w.heap.size, 2, none⟩ = some (.slice A2 M.length c2) := (blk_cell HX0.out 2).trans rfl
  cases hau : auB rk st M with
  | false =>
    rw [chk_false hau] at HCK
    have HP := Aside0.mk (show putR rk st M = ([], 10) by unfold putR; rw [hau]; rfl)
    clear hau
    go_wp2_with fail
    refine (HCK.out).mono ?_
    rintro E W2 ⟨rfl, hb⟩
    have HB1 := Aside0.mk (below_then HB0.out (HB0.out).size hb)
    clear hb
    go_wp2
    go_ret2
    exact ⟨by rw [HP.out]; rfl, HB1.out⟩
  | true =>
  rw [chk_true hau] at HCK
  have HOK := Aside0.mk (auOk hau)
  have HPR := Aside0.mk (show putR rk st M = if 65536 < (putL rk st M).length then ([], 3) else (putL rk st M, 0) by unfold putR; rw [hau]; rfl)
  have HLN := Aside0.mk (putL_len HOK.out)
  clear hau
  go_wp2_with fail
  refine (HCK.out).mono ?_
  rintro E W2 ⟨rfl, hb⟩
  have HS := Aside0.mk (pb_start w W2 _ _ _ (below_then HB0.out (HB0.out).size hb) (blk_below HX0.out hb))
  clear hb HCK HB0 HX0 k0 k1 k2
  go_upto_region 5 with (fail)
  generalize W2.heap.size = b at *
  generalize W2.alloc _ = W3 at *
  have HW := Aside0.mk (ws_calls b [] ⟨#[114, 97, 110, 107, 115]⟩ tRanks W3 (HS.out).bb rfl (by unfold tRanks; simp) (HS.out).hbw)
  go_wp2_with fail
  refine (HW.out).mono ?_
  rintro E W4 ⟨rfl, hB, hb⟩
  have HS4 := Aside0.mk ((HS.out).write hb hB)
  clear hB hb HW HS
  have HRL := Aside0.mk (show rk.length ≤ 24 from (HOK.out).nrk)
  have k0 : W4.cell? ⟨w.heap.size, 0, none⟩ = some (.slice A1 rk.length c1) := (blk_cell (HS4.out).box 0).trans rfl
  go_wp2
  clear k0
  go_loopg [25] rk.length (fun gg v25 wi => ∃ (i : Nat) (acc : List UInt8), i ≤ rk.length ∧ rk.length - i ≤ gg ∧ v25 = .int .i64 i ∧ Aside0 (PB w b (.slice A1 rk.length c1) (.int .i64 st) (.slice A2 M.length c2) acc wi) ∧ Aside0 (acc ++ (ranksT (rk.drop i) ++ (secT M.length st.toNat ++ movT 0 M)) = putL rk st M))
  case atStart => exact ⟨0, _, Nat.zero_le _, Nat.le_refl _, rfl, HS4, ⟨rfl⟩⟩
  case round =>
    clear HS4
    obtain ⟨i, acc, hi, hgg, rfl, HS5, HA⟩ := hrel
    by_cases hlt : i < rk.length
    · have hltz : (i : Int) < (rk.length : Int) := by omega
      have HLT := Aside0.mk hlt
      obtain ⟨ad, e, hk⟩ := at_int (Kd.C_below HR.out (HS5.out).hb) i hlt
      subst e
      have HRR := Aside0.mk ((HOK.out).rks _ (getD_memI hlt))
      have HFD := Aside0.mk (show ranksT (rk.drop i) = (32 :: dg (rk.getD i 0).toNat) ++ ranksT (rk.drop (i + 1)) from flatMap_drop hlt)
      have HKZ := Aside0.mk (show wrap64 ((i : Int) + 1) = ((i + 1 : Nat) : Int) by rw [wr_id (by omega) (by have := HRL.out; omega)]; rfl)
      generalize rk.getD i 0 = r at *
      have hd : (dg r.toNat).length ≤ 2 := dg_len (by have := (HRR.out).1; have := (HRR.out).2; omega)
      have HI := Aside0.mk (fun W => itoa_calls r (HRR.out).1 (by have := (HRR.out).2; omega) W)
      clear hlt hi
      go_wp2_with fail
      refine ((HI.out) _).mono ?_
      rintro E W5 ⟨rfl, rfl⟩
      have HA6 := Aside0.mk (show (acc ++ (32 :: dg r.toNat)) ++ (ranksT (rk.drop (i + 1)) ++ (secT M.length st.toNat ++ movT 0 M)) = putL rk st M by rw [← HA.out, HFD.out]; simp)
      have HLA := Aside0.mk (show acc.length + (32 :: dg r.toNat).length ≤ 1000000 by
        have h1 := HLN.out
        rw [← HA6.out, List.length_append, List.length_append] at h1
        omega)
      have HWS := Aside0.mk (fun (s : ByteArray) (hs : s.data.toList = 32 :: dg r.toNat) => ws_calls b acc s _ _ (HS5.out).bb hs (by have := HLA.out; omega) (HS5.out).hbw)
      go_wp2_with fail
      refine ((HWS.out) _ ?_).mono ?_
      · first | rfl | simp
      rintro E W6 ⟨rfl, hB, hb⟩
      have HS7 := Aside0.mk ((HS5.out).write hb hB)
      clear hB hb
      go_wp2
      go_roundg (rk.length - (i + 1))
      case measure => have := HLT.out; omega
      case rel => exact ⟨i + 1, _, HLT.out, Nat.le_refl _, by rw [HKZ.out], HS7, HA6⟩
    · obtain rfl : i = rk.length := by omega
      have HA2 := Aside0.mk (show acc ++ (secT M.length st.toNat ++ movT 0 M) = putL rk st M by rw [← HA.out, List.drop_length]; rfl)
      clear HA hi hgg hlt
      go_upto_region 11 with (fail)
      have k1 : wr.cell? ⟨w.heap.size, 1, none⟩ = some (.int .i64 st) := (blk_cell (HS5.out).box 1).trans rfl
      have k2 : wr.cell? ⟨w.heap.size, 2, none⟩ = some (.slice A2 M.length c2) := (blk_cell (HS5.out).box 2).trans rfl
      have HI1 := Aside0.mk (fun W => itoa_calls (M.length : Int) (by omega) (by have := (HOK.out).nM; omega) W)
      have HI2 := Aside0.mk (fun W => itoa_calls st (HOK.out).st0 (by have := (HOK.out).nM; have := (HOK.out).st1; omega) W)
      have hd1 : (dg M.length).length ≤ 2 := dg_len (by have := (HOK.out).nM; omega)
      have hd2 : (dg st.toNat).length ≤ 2 := dg_len (by have := (HOK.out).nM; have := (HOK.out).st1; omega)
      refine wp_region_still_tail 11 (by kernel_rfl) (by kernel_rfl) ?_
      simp only [List.take_succ_cons, List.take_zero, List.drop_succ_cons, List.drop_zero]
      repeat (refine wpStill_step (fun K hK => ?_); go_simp; (first | refine hK _ ?_ | (rw [if_neg (by omega)]; go_simp; refine hK _ ?_)); clear hK K)
      still_call (HI1.out _)
      repeat (refine wpStill_step (fun K hK => ?_); go_simp; (first | refine hK _ ?_ | (rw [if_neg (by omega)]; go_simp; refine hK _ ?_)); clear hK K)
      still_call (HI2.out _)
      repeat (refine wpStill_step (fun K hK => ?_); go_simp; (first | refine hK _ ?_ | (rw [if_neg (by omega)]; go_simp; refine hK _ ?_)); clear hK K)
      refine wpStill_nil ?_
      change wpList _ _ _ _ _ wr.drew
      have HSd := Aside0.mk ((HS5.out).below (below_drew (Below.refl _ _)))
      clear k1 k2 HS5 HI1 HI2
      generalize wr.drew = W5 at *
      have HA6 := Aside0.mk (show (acc ++ secT M.length st.toNat) ++ (movT 0 M) = putL rk st M by rw [← HA2.out]; simp)
      have HLA6 := Aside0.mk (show (acc).length + (secT M.length st.toNat).length ≤ 1000000 by
        have h1 := HLN.out
        rw [← HA6.out, List.length_append, List.length_append] at h1
        omega)
      have HWS6 := Aside0.mk (fun (s : ByteArray) (hs : s.data.toList = secT M.length st.toNat) => ws_calls b (acc) s _ _ (HSd.out).bb hs (by have := HLA6.out; omega) (HSd.out).hbw)
      go_wp2_with fail
      refine ((HWS6.out) _ ?_).mono ?_
      · first | rfl | (simp; done) | (simp; rfl)
      rintro E W6 ⟨rfl, hB, hb⟩
      have HS6 := Aside0.mk ((HSd.out).write hb hB)
      clear hB hb HWS6 HLA6
      have k2 : W6.cell? ⟨w.heap.size, 2, none⟩ = some (.slice A2 M.length c2) := (blk_cell (HS6.out).box 2).trans rfl
      have HNM := Aside0.mk (HOK.out).nM
      clear HA2 HSd hd1 hd2
      generalize acc ++ secT M.length st.toNat = acc0 at *
      go_wp2
      clear k2
      go_loopg [49] M.length (fun gg v49 wi => ∃ (q : Nat) (acc : List UInt8), q ≤ M.length ∧ M.length - q ≤ gg ∧ v49 = .int .i64 q ∧ Aside0 (PB w b (.slice A1 rk.length c1) (.int .i64 st) (.slice A2 M.length c2) acc wi) ∧ Aside0 (acc ++ movT q (M.drop q) = putL rk st M))
      case atStart => exact ⟨0, _, Nat.zero_le _, Nat.le_refl _, rfl, HS6, HA6⟩
      case round =>
        clear HS6 HA6
        obtain ⟨q, acc, hq, hgg, rfl, HS, HA⟩ := hrel
        by_cases hlt : q < M.length
        · have hltz : (q : Int) < (M.length : Int) := by omega
          have HLT := Aside0.mk hlt
          obtain ⟨ad, A0, c0, e, hk, hc0, hrow⟩ := at_sl HM.out q hlt
          subst e
          have hk2 := pw_cell_below (HS.out).hb hk
          have HROW := Aside0.mk hrow
          have HRM := Aside0.mk (getD_memX [] hlt)
          have HDQ := Aside0.mk (movT_drop hlt)
          have HKQ := Aside0.mk (show wrap64 ((q : Int) + 1) = ((q + 1 : Nat) : Int) by rw [wr_id (by omega) (by have := HNM.out; omega)]; rfl)
          have HQ100 := Aside0.mk (show q < 100 by have := HNM.out; omega)
          clear hk hc0 hrow hlt hq
          generalize M.getD q [] = row at *
          have HRL2 := Aside0.mk ((HOK.out).row row HRM.out)
          go_wp2
          clear hk2 hltz
          go_loopg [56] row.length (fun gg v56 wi => ∃ (f : Nat) (acc : List UInt8), f ≤ row.length ∧ row.length - f ≤ gg ∧ v56 = .int .i64 f ∧ Aside0 (PB w b (.slice A1 rk.length c1) (.int .i64 st) (.slice (some ad) M.length c2) acc wi) ∧ Aside0 (acc ++ (rowT q f (row.drop f) ++ movT (q + 1) (M.drop (q + 1))) = putL rk st M))
          case atStart => exact ⟨0, acc, Nat.zero_le _, Nat.le_refl _, rfl, HS, ⟨by rw [← HA.out, HDQ.out]; rfl⟩⟩
          case round =>
            clear HS HA HDQ
            obtain ⟨f, acc, hf, hgg, rfl, HS, HA⟩ := hrel
            by_cases hlt : f < row.length
            · have hltz : (f : Int) < (row.length : Int) := by omega
              have HLF := Aside0.mk hlt
              obtain ⟨ad3, A3, c3, e, hk, hc3, halt⟩ := at_sl HROW.out f hlt
              subst e
              have hk2 := pw_cell_below (HS.out).hb hk
              have HALT := Aside0.mk halt
              have HAM := Aside0.mk (getD_memX [] hlt)
              have HDF := Aside0.mk (rowT_drop (q := q) hlt)
              have HF24 := Aside0.mk (show f < 24 by have := HRL.out; have := HRL2.out; omega)
              have HKF := Aside0.mk (show wrap64 ((f : Int) + 1) = ((f + 1 : Nat) : Int) by rw [wr_id (by omega) (by have := HF24.out; omega)]; rfl)
              clear hk hc3 halt hlt hf
              generalize row.getD f [] = alts at *
              have HAL := Aside0.mk ((HOK.out).alts row HRM.out alts HAM.out)
              go_wp2
              clear hk2 hltz
              go_loopg [63] alts.length (fun gg v63 wi => ∃ (i : Nat) (acc : List UInt8), i ≤ alts.length ∧ alts.length - i ≤ gg ∧ v63 = .int .i64 i ∧ Aside0 (PB w b (.slice A1 rk.length c1) (.int .i64 st) (.slice (some ad) M.length c2) acc wi) ∧ Aside0 (acc ++ ((alts.drop i).flatMap (altT q f) ++ (rowT q (f + 1) (row.drop (f + 1)) ++ movT (q + 1) (M.drop (q + 1)))) = putL rk st M))
              case atStart => exact ⟨0, acc, Nat.zero_le _, Nat.le_refl _, rfl, HS, ⟨by rw [← HA.out, HDF.out]; simp [symT]⟩⟩
              case round =>
                clear HS HA HDF
                obtain ⟨i, acc, hi, hgg, rfl, HS, HA⟩ := hrel
                by_cases hlt : i < alts.length
                · have hltz : (i : Int) < (alts.length : Int) := by omega
                  have HLI := Aside0.mk hlt
                  obtain ⟨ad4, A4, c4, e, hk, hc4, hl⟩ := at_sl HALT.out i hlt
                  subst e
                  have hk2 := pw_cell_below (HS.out).hb hk
                  have HL := Aside0.mk hl
                  have HLM := Aside0.mk (getD_memX [] hlt)
                  have HDI := Aside0.mk (flatMap_drop (g := altT q f) (d := []) hlt)
                  have HKI := Aside0.mk (show wrap64 ((i : Int) + 1) = ((i + 1 : Nat) : Int) by rw [wr_id (by omega) (by have := HAL.out; omega)]; rfl)
                  clear hk hc4 hl hlt hi
                  generalize alts.getD i [] = l at *
                  have HLL := Aside0.mk ((HOK.out).lens row HRM.out alts HAM.out l HLM.out)
                  have hdq : (dg q).length ≤ 2 := dg_len HQ100.out
                  have hdf : (dg f).length ≤ 2 := dg_len (by have := HF24.out; omega)
                  have HI1 := Aside0.mk (fun W => itoaN_calls q HQ100.out W)
                  have HI2 := Aside0.mk (fun W => itoaN_calls f (by have := HF24.out; omega) W)
                  have HA7 := Aside0.mk (show (acc ++ headT q f) ++ (l.flatMap needT ++ ([10] ++ ((alts.drop (i + 1)).flatMap (altT q f) ++ (rowT q (f + 1) (row.drop (f + 1)) ++ movT (q + 1) (M.drop (q + 1)))))) = putL rk st M by rw [← HA.out, HDI.out]; unfold altT; simp)
                  have HLA7 := Aside0.mk (show (acc).length + (headT q f).length ≤ 1000000 by
                    have h1 := HLN.out
                    rw [← HA7.out, List.length_append, List.length_append] at h1
                    omega)
                  have HWS7 := Aside0.mk (fun (s : ByteArray) (hs : s.data.toList = headT q f) => ws_calls b (acc) s _ _ (HS.out).bb hs (by have := HLA7.out; omega) (HS.out).hbw)
                  go_wp2_with fail
                  refine ((HI1.out) _).mono ?_
                  rintro E W0 ⟨rfl, rfl⟩
                  go_wp2_with fail
                  refine ((HI2.out) _).mono ?_
                  rintro E W0 ⟨rfl, rfl⟩
                  go_wp2_with fail
                  refine ((HWS7.out) _ ?_).mono ?_
                  · first | rfl | (simp; done) | (simp; rfl)
                  rintro E W7 ⟨rfl, hB, hb⟩
                  have HS7 := Aside0.mk ((HS.out).write hb hB)
                  clear hB hb HWS7 HLA7
                  clear hdq hdf HI1 HI2 hk2 hltz HS HA HDI
                  generalize acc ++ headT q f = acc1 at *
                  go_wp2
                  go_loopg [77] l.length (fun gg v77 wi => ∃ (j : Nat) (acc : List UInt8), j ≤ l.length ∧ l.length - j ≤ gg ∧ v77 = .int .i64 j ∧ Aside0 (PB w b (.slice A1 rk.length c1) (.int .i64 st) (.slice (some ad) M.length c2) acc wi) ∧ Aside0 (acc ++ ((l.drop j).flatMap needT ++ ([10] ++ ((alts.drop (i + 1)).flatMap (altT q f) ++ (rowT q (f + 1) (row.drop (f + 1)) ++ movT (q + 1) (M.drop (q + 1)))))) = putL rk st M))
                  case atStart => exact ⟨0, _, Nat.zero_le _, Nat.le_refl _, rfl, HS7, HA7⟩
                  case round =>
                    clear HS7 HA7
                    obtain ⟨j, acc, hj, hgg, rfl, HS, HA⟩ := hrel
                    by_cases hlt : j < l.length
                    · have hltz : (j : Int) < (l.length : Int) := by omega
                      have HLJ := Aside0.mk hlt
                      obtain ⟨ad5, e, hk, hkb⟩ := at_need HL.out j hlt
                      subst e
                      have hk2 := pw_cell_below (HS.out).hb hk
                      have hk3 := pw_cell_below (HS.out).hb hkb
                      have HND := Aside0.mk ((HOK.out).nds row HRM.out alts HAM.out l HLM.out _ (getD_memX zN hlt))
                      have HDJ := Aside0.mk (flatMap_drop (g := needT) (d := zN) hlt)
                      have HKJ := Aside0.mk (show wrap64 ((j : Int) + 1) = ((j + 1 : Nat) : Int) by rw [wr_id (by omega) (by have := HLL.out; omega)]; rfl)
                      clear hk hkb hlt hj
                      generalize l.getD j zN = x at *
                      have hd1 : (dg x.f0.toNat).length ≤ 2 := dg_len (by have := HND.out; omega)
                      have hd2 : (dg x.f1.toNat).length ≤ 2 := dg_len (by have := HND.out; omega)
                      have HI1 := Aside0.mk (fun W => itoa_calls x.f0 (HND.out).1 (by have := HND.out; omega) W)
                      have HI2 := Aside0.mk (fun W => itoa_calls x.f1 (HND.out).2.2.1 (by have := HND.out; omega) W)
                      go_upto_region 25 with (fail)
                      have HSA := Aside0.mk ((HS.out).below (below_alloc (Below.refl _ _) (.cells #[.int .i64 x.f0, .int .i64 x.f1] 83)))
                      have k8 : (wr.alloc (.cells #[.int .i64 x.f0, .int .i64 x.f1] 83)).cell? ⟨wr.heap.size, 0, none⟩ = some (.int .i64 x.f0) := (blk_cell (blk_new wr _) 0).trans rfl
                      have k9 : (wr.alloc (.cells #[.int .i64 x.f0, .int .i64 x.f1] 83)).cell? ⟨wr.heap.size, 1, none⟩ = some (.int .i64 x.f1) := (blk_cell (blk_new wr _) 1).trans rfl
                      clear hk2 hk3 HS
                      generalize wr.alloc (.cells #[.int .i64 x.f0, .int .i64 x.f1] 83) = W8 at *
                      refine wp_region_still_tail 9 (by kernel_rfl) (by kernel_rfl) ?_
                      simp only [List.take_succ_cons, List.take_zero, List.drop_succ_cons, List.drop_zero]
                      repeat (refine wpStill_step (fun K hK => ?_); go_simp; (first | refine hK _ ?_ | (rw [if_neg (by omega)]; go_simp; refine hK _ ?_)); clear hK K)
                      still_call (HI1.out _)
                      repeat (refine wpStill_step (fun K hK => ?_); go_simp; (first | refine hK _ ?_ | (rw [if_neg (by omega)]; go_simp; refine hK _ ?_)); clear hK K)
                      still_call (HI2.out _)
                      repeat (refine wpStill_step (fun K hK => ?_); go_simp; (first | refine hK _ ?_ | (rw [if_neg (by omega)]; go_simp; refine hK _ ?_)); clear hK K)
                      refine wpStill_nil ?_
                      change wpList _ _ _ _ _ W8.drew
                      have HSd := Aside0.mk ((HSA.out).below (below_drew (Below.refl _ _)))
                      clear k8 k9 HSA HI1 HI2
                      generalize W8.drew = W5 at *
                      have HA6 := Aside0.mk (show (acc ++ needT x) ++ ((l.drop (j + 1)).flatMap needT ++ ([10] ++ ((alts.drop (i + 1)).flatMap (altT q f) ++ (rowT q (f + 1) (row.drop (f + 1)) ++ movT (q + 1) (M.drop (q + 1)))))) = putL rk st M by rw [← HA.out, HDJ.out]; simp)
                      have HLA6 := Aside0.mk (show (acc).length + (needT x).length ≤ 1000000 by
                        have h1 := HLN.out
                        rw [← HA6.out, List.length_append, List.length_append] at h1
                        omega)
                      have HWS6 := Aside0.mk (fun (s : ByteArray) (hs : s.data.toList = needT x) => ws_calls b (acc) s _ _ (HSd.out).bb hs (by have := HLA6.out; omega) (HSd.out).hbw)
                      go_wp2_with fail
                      refine ((HWS6.out) _ ?_).mono ?_
                      · first | rfl | (unfold needT; simp; done) | (unfold needT; simp; rfl)
                      rintro E W6 ⟨rfl, hB, hb⟩
                      have HS6 := Aside0.mk ((HSd.out).write hb hB)
                      clear hB hb HWS6 HLA6
                      go_wp2
                      go_roundg (l.length - (j + 1))
                      case measure => have := HLJ.out; omega
                      case rel => exact ⟨j + 1, _, HLJ.out, Nat.le_refl _, by rw [HKJ.out], HS6, HA6⟩
                    · obtain rfl : j = l.length := by omega
                      have HA8 := Aside0.mk (show (acc ++ [10]) ++ ((alts.drop (i + 1)).flatMap (altT q f) ++ (rowT q (f + 1) (row.drop (f + 1)) ++ movT (q + 1) (M.drop (q + 1)))) = putL rk st M by rw [← HA.out, List.drop_length]; simp)
                      have HLA8 := Aside0.mk (show acc.length + 1 ≤ 1000000 by
                        have h1 := HLN.out
                        rw [← HA8.out, List.length_append, List.length_append, List.length_singleton] at h1
                        omega)
                      have HWB := Aside0.mk (wb_calls b acc wr (HS.out).bb (by have := HLA8.out; omega) (HS.out).hbw)
                      clear HA hj hgg hlt
                      go_wp2_with fail
                      refine (HWB.out).mono ?_
                      rintro E W8 ⟨rfl, hB, hb⟩
                      have HS8 := Aside0.mk ((HS.out).write hb hB)
                      clear hB hb
                      go_wp2
                      go_roundg (alts.length - (i + 1))
                      case measure => have := HLI.out; omega
                      case rel => exact ⟨i + 1, _, HLI.out, Nat.le_refl _, by rw [HKI.out], HS8, HA8⟩
                · obtain rfl : i = alts.length := by omega
                  have HA9 := Aside0.mk (show acc ++ (rowT q (f + 1) (row.drop (f + 1)) ++ movT (q + 1) (M.drop (q + 1))) = putL rk st M by rw [← HA.out, List.drop_length]; simp)
                  clear HA hi hgg hlt
                  go_wp2
                  go_roundg (row.length - (f + 1))
                  case measure => have := HLF.out; omega
                  case rel => exact ⟨f + 1, _, HLF.out, Nat.le_refl _, by rw [HKF.out], HS, HA9⟩
            · obtain rfl : f = row.length := by omega
              have HA9 := Aside0.mk (show acc ++ movT (q + 1) (M.drop (q + 1)) = putL rk st M by rw [← HA.out, List.drop_length]; simp [rowT])
              clear HA hf hgg hlt
              go_wp2
              go_roundg (M.length - (q + 1))
              case measure => have := HLT.out; omega
              case rel => exact ⟨q + 1, _, HLT.out, Nat.le_refl _, by rw [HKQ.out], HS, HA9⟩
        · obtain rfl : q = M.length := by omega
          have HACC := Aside0.mk (show acc = putL rk st M by rw [← HA.out, List.drop_length]; simp [movT])
          have HLEN := Aside0.mk (show Calls Tryz.prog 55 #[.pointer (some ⟨b, 0, none⟩)] wr fun e w' => e = .returned (.int .i64 (acc.length : Int)) ∧ w' = wr from by
            have h := Tryz.Builder_Len b b (Lib.byteCells acc) wr (HS.out).bb
            rw [byteCells_len] at h
            exact h)
          have HSTR := Aside0.mk (Tryz.Builder_String_any b b acc wr (HS.out).bb (HS.out).hbw)
          rw [← HACC.out] at HPR
          clear HA hq hgg hlt
          go_wp2_with fail
          refine (HLEN.out).mono ?_
          rintro E W0 ⟨rfl, rfl⟩
          cases q1 : decide ((acc.length : Int) > 65536) with
          | true =>
            have HP := Aside0.mk (show putR rk st M = ([], 3) by rw [HPR.out, if_pos (by have := of_decide_eq_true q1; omega)])
            go_wp2
            go_ret2
            exact ⟨by rw [HP.out]; rfl, (HS.out).hb⟩
          | false =>
            have HP := Aside0.mk (show putR rk st M = (acc, 0) by rw [HPR.out, if_neg (by have := of_decide_eq_false q1; omega)])
            go_wp2_with fail
            refine (HSTR.out).mono ?_
            rintro E W9 ⟨rfl, hb⟩
            have HB9 := Aside0.mk (Below.trans (HS.out).hb (Below.mono hb (Nat.le_of_lt (HS.out).hlt)))
            clear hb
            go_wp2
            go_ret2
            exact ⟨by rw [HP.out]; rfl, HB9.out⟩
end Go.Proofs.YtbmcigakiibncaaGreatDoor.H
namespace Go.Proofs.YtbmcigakiibncaaGreatDoor.H
open Go.RowKit Go.Proofs.YtbmcigakiibncaaGreatDoorW.PrintWords Go.Proofs.YtbmcigakiibncaaGreatDoorW.PrintLast Go.Proofs.YtbmcigakiibncaaGreatDoorW.PrintMore
set_option linter.unusedVariables false
set_option linter.unusedSimpArgs false
structure TX (w : World) (x y z : Value) (W : World) : Prop where
  hb : Below w.heap.size w W
  box : W.heap[w.heap.size]? = some (.cells #[x, y, z] 25 (0, 0))
theorem TX.below {w W W1 : World} {x y z : Value} (h : TX w x y z W) (hb : Below W.heap.size W W1) : TX w x y z W1 :=
  ⟨below_then h.hb h.hb.size hb, blk_below h.box hb⟩
end Go.Proofs.YtbmcigakiibncaaGreatDoor.H
namespace Go.Proofs.YtbmcigakiibncaaGreatDoor.H
open Go.RowKit Go.Proofs.YtbmcigakiibncaaGreatDoorW.PrintWords Go.Proofs.YtbmcigakiibncaaGreatDoorW.PrintLast Go.Proofs.YtbmcigakiibncaaGreatDoorW.PrintMore
set_option linter.unusedVariables false
set_option linter.unusedSimpArgs false
theorem rcompare_calls (A : Option Addr) (c : Nat) (a : List Nd) (B : Option Addr) (d : Nat) (b : List Nd) (w : World) (hA : Kd.C Q.k83 w A a.length a) (hc : a.length ≤ c) (hB : Kd.C Q.k83 w B b.length b) (hd : b.length ≤ d) :
    Calls Tryz.prog 94 #[.slice A a.length c, .slice B b.length d] w fun e w' => e = .returned (.int .i64 (sgI (cmpL a b))) ∧ Below w.heap.size w w' := by
  obtain ⟨k, hk⟩ := (compareF_ev a b hA.2.1).rounds
  exact Q.virgationref09_Compare.calls k A c a B d b _ w hA hc hB hd hk
theorem ranksR_calls (A : Option Addr) (c : Nat) (l : List Int) (w : World) (hr : Kd.C (Kd.int .i64) w A l.length l) (hc : l.length ≤ c) : Calls Tryz.prog 46 #[.slice A l.length c] w fun e w' => e = .returned (.bool (ranksB l)) ∧ Below w.heap.size w w' := by
  obtain ⟨k, hk⟩ := (ranks6_ev l hr.2.1).rounds
  exact (Q.virgationref06_Ranks.calls k A c l _ w hr hc hk).mono fun e w' h => ⟨h.1, by first | exact h.2 | exact h.2.below⟩
theorem altsB_false {r n : Int} {l : List (List Nd)} {j : Nat} (hj : j < l.length) (h : altLAt l r n j = false) : altsB r n l = false := by
  cases e : altsB r n l with
  | false => rfl
  | true =>
    unfold altsB at e
    rw [Bool.and_eq_true, allF_iff] at e
    rw [e.2 j (Nat.zero_le _) (by omega)] at h; cases h
theorem altsB_true {r n : Int} {l : List (List Nd)} (hl : l.length ≤ 12) (h : ∀ i, i < l.length → altLAt l r n i = true) : altsB r n l = true := by
  unfold altsB
  rw [Bool.and_eq_true, allF_iff]
  exact ⟨decide_eq_true hl, fun i _ hi => h i (by omega)⟩
theorem altLAt_bad {l : List (List Nd)} {r n : Int} {j : Nat} (h : altB r n (l.getD j []) = false) : altLAt l r n j = false := by unfold altLAt; rw [h]; rfl
theorem altLAt_zero {l : List (List Nd)} {r n : Int} (h : altB r n (l.getD 0 []) = true) : altLAt l r n 0 = true := by unfold altLAt; rw [h]; rfl
theorem altLAt_succ {l : List (List Nd)} {r n : Int} {i : Nat} (h : altB r n (l.getD (i + 1) []) = true) : altLAt l r n (i + 1) = decide (cmpL (l.getD i []) (l.getD (i + 1) []) < 0) := by unfold altLAt; rw [h]; simp
set_option maxHeartbeats 8000000 in
set_option maxRecDepth 100000 in
theorem altsR_calls (A : Option Addr) (c : Nat) (l : List (List Nd)) (r n : Int) (w : World) (hr : Kd.C kA1 w A l.length l) :
    Calls Tryz.prog 47 #[.slice A l.length c, .int .i64 r, .int .i64 n] w fun e w' => e = .returned (.bool (altsB r n l)) ∧ Below w.heap.size w w' := by
  have HR := Aside0.mk hr
  clear hr
  cases q : decide ((l.length : Int) > 12) with
  | true =>
    have HV := Aside0.mk (show altsB r n l = false by have := of_decide_eq_true q; unfold altsB; rw [decide_eq_false (by omega)]; rfl)
    go_enter Tryz.func47, Tryz.ntmps47
    go_wp2
    go_ret
    exact ⟨by rw [HV.out]; rfl, Below.refl _ _⟩
  | false =>
  have HL := Aside0.mk (show l.length ≤ 12 by have := of_decide_eq_false q; omega)
  go_enter Tryz.func47, Tryz.ntmps47
  go_wp2
  clear q
  go_loopg [14] l.length (fun gg v14 wi => ∃ j : Nat, j ≤ l.length ∧ l.length - j ≤ gg ∧ v14 = .int .i64 j ∧ Aside0 (Below w.heap.size w wi) ∧ Aside0 (∀ i, i < j → altLAt l r n i = true))
  case atStart => exact ⟨0, Nat.zero_le _, Nat.le_refl _, rfl, ⟨Below.refl _ _⟩, ⟨fun i hi => absurd hi (Nat.not_lt_zero _)⟩⟩
  case round =>
    obtain ⟨j, hj, hgg, rfl, HB, HP⟩ := hrel
    by_cases hlt : j < l.length
    · have hltz : (j : Int) < (l.length : Int) := by omega
      have HLT := Aside0.mk hlt
      have HKZ := Aside0.mk (show wrap64 ((j : Int) + 1) = ((j + 1 : Nat) : Int) by rw [wr_id (by omega) (by have := HL.out; omega)]; rfl)
      obtain ⟨ad, A1, c1, e, hk, hl1, hC1⟩ := at_sl HR.out j hlt
      subst e
      replace hk := pw_cell_below HB.out hk
      have HF := Aside0.mk (show altB r n (l.getD j []) = false → altsB r n l = false from fun h => altsB_false hlt (altLAt_bad h))
      have HZ := Aside0.mk (show j = 0 → altB r n (l.getD j []) = true → ∀ i, i < j + 1 → altLAt l r n i = true from fun h0 hnb i hi => by subst h0; rw [show i = 0 by omega]; exact altLAt_zero hnb)
      have HVF := Aside0.mk (show ∀ i, j = i + 1 → altB r n (l.getD j []) = true → ¬ cmpL (l.getD i []) (l.getD j []) < 0 → altsB r n l = false from fun i e hnb h => altsB_false hlt (by subst e; rw [altLAt_succ hnb]; exact decide_eq_false h))
      have HVT := Aside0.mk (show ∀ i, j = i + 1 → altB r n (l.getD j []) = true → cmpL (l.getD i []) (l.getD j []) < 0 → ∀ i', i' < j + 1 → altLAt l r n i' = true from fun i e hnb h i' hi' => by
          rcases Nat.lt_or_ge i' j with h2 | h2
          · exact HP.out i' h2
          · rw [show i' = j by omega]; subst e; rw [altLAt_succ hnb]; exact decide_eq_true h)
      have HC1 := Aside0.mk hC1
      have HL1 := Aside0.mk hl1
      clear HP hC1 hl1
      generalize l.getD j [] = x at *
      have HAL := Aside0.mk (altR_calls A1 c1 x r n wr (Kd.C_below (HC1.out) HB.out))
      go_wp2_with fail
      refine (HAL.out).mono ?_
      rintro E W2 ⟨rfl, hb⟩
      have HB2 := Aside0.mk (below_then HB.out (HB.out).size hb)
      clear hb hk HAL
      cases q1 : altB r n x with
      | false =>
        have HV := Aside0.mk (HF.out q1)
        clear q1
        go_wp2
        go_ret
        exact ⟨by rw [HV.out]; rfl, HB2.out⟩
      | true =>
      cases j with
      | zero =>
        have HT := Aside0.mk (HZ.out rfl q1)
        have q5 : decide (((0 : Nat) : Int) > 0) = false := by decide
        clear q1
        go_wp2
        go_roundg (l.length - (0 + 1))
        case measure => have := HLT.out; omega
        case rel => exact ⟨0 + 1, HLT.out, Nat.le_refl _, by first | rw [HKZ.out] | rfl, HB2, HT⟩
      | succ i =>
        obtain ⟨ad', A2, c2, e, hk, hl2, hC2⟩ := at_sl HR.out i (by omega)
        cases e
        replace hk := pw_cell_below (HB2.out) hk
        have HVF' := Aside0.mk (HVF.out i rfl q1)
        have HVT' := Aside0.mk (HVT.out i rfl q1)
        clear HF HVF HVT HZ q1
        generalize l.getD i [] = y at *
        have HBE := Aside0.mk (rcompare_calls A2 c2 y A1 c1 x W2 (Kd.C_below hC2 HB2.out) hl2 (Kd.C_below HC1.out HB2.out) HL1.out)
        generalize cmpL y x = v at *
        have HS := Aside0.mk (sgI_neg v)
        generalize sgI v = sv at *
        have q5 : decide (((i + 1 : Nat) : Int) > 0) = true := decide_eq_true (by omega)
        have q6 : wrap64 (((i + 1 : Nat) : Int) - 1) = (i : Int) := wrap_pred (by have := HL.out; have := HLT.out; omega)
        have q7 : (i : Int) < (l.length : Int) := by omega
        have q9 : (0 : Int) ≤ (i : Int) := by omega
        have q10 : wrap64 (i : Int) = (i : Int) := wr_id (by omega) (by have := HL.out; have := HLT.out; omega)
        have hwj : IntKind.i64.wrap (i : Int) = (i : Int) := by rw [i64_w]; exact q10
        go_wp2_with fail
        refine (HBE.out).mono ?_
        rintro E W3 ⟨rfl, hb⟩
        have HB3 := Aside0.mk (below_then HB2.out (HB2.out).size hb)
        clear hb hk
        cases q8 : decide (sv ≥ 0) with
        | true =>
          have HV := Aside0.mk (HVF'.out (by have h0 := HS.out; have h1 := of_decide_eq_true q8; have h2 : ¬ v < 0 := fun h => by { have := h0.2 h; omega }; omega))
          go_wp2
          go_ret
          exact ⟨by rw [HV.out]; rfl, (HB3.out)⟩
        | false =>
          have HV := Aside0.mk (HVT'.out ((HS.out).1 (by have := of_decide_eq_false q8; omega)))
          go_wp2
          go_roundg (l.length - (i + 1 + 1))
          case measure => have := HLT.out; omega
          case rel => exact ⟨i + 1 + 1, HLT.out, Nat.le_refl _, by first | rw [HKZ.out] | exact congrArg (Value.int .i64) HKZ.out, HB3, HV⟩
    · obtain rfl : j = l.length := by omega
      have HV := Aside0.mk (altsB_true HL.out HP.out)
      clear HP hlt hj hgg
      go_wp2
      go_ret
      exact ⟨by rw [HV.out]; rfl, HB.out⟩
theorem isR_unfold {rk : List Int} {st : Int} {M : Mv} : isR rk st M = (ranksB rk && decide (1 ≤ M.length) && decide (M.length ≤ 6) && decide (0 ≤ st) && decide (st < (M.length : Int)) && allF (fun q => rowR rk (M.length : Int) (M.getD q [])) 0 M.length) := rfl
theorem isR_row {rk : List Int} {st : Int} {M : Mv} {q : Nat} (hq : q < M.length) (h : rowR rk (M.length : Int) (M.getD q []) = false) : isR rk st M = false := by
  cases e : isR rk st M with
  | false => rfl
  | true =>
    rw [isR_unfold, Bool.and_eq_true, allF_iff] at e
    rw [e.2 q (Nat.zero_le _) (by omega)] at h; cases h
theorem rowR_len {rk : List Int} {n : Int} {row : List (List (List Nd))} (h : row.length ≠ rk.length) : rowR rk n row = false := by unfold rowR; rw [decide_eq_false h]; rfl
theorem rowR_at {rk : List Int} {n : Int} {row : List (List (List Nd))} {f : Nat} (hf : f < row.length) (h : altsB (rk.getD f 0) n (row.getD f []) = false) : rowR rk n row = false := by
  cases e : rowR rk n row with
  | false => rfl
  | true =>
    unfold rowR at e
    rw [Bool.and_eq_true, allF_iff] at e
    have := e.2 f (Nat.zero_le _) (by omega)
    rw [show rd rk (f : Int) = rk.getD f 0 by simp [rd], h] at this; cases this
theorem rowR_true {rk : List Int} {n : Int} {row : List (List (List Nd))} (hl : row.length = rk.length) (h : ∀ f, f < row.length → altsB (rk.getD f 0) n (row.getD f []) = true) : rowR rk n row = true := by
  unfold rowR
  rw [decide_eq_true hl, Bool.true_and, allF_iff]
  intro f _ hf
  rw [show rd rk (f : Int) = rk.getD f 0 by simp [rd]]
  exact h f (by omega)
set_option maxHeartbeats 8000000 in
set_option maxRecDepth 100000 in
theorem isA_calls (rk : List Int) (M : Mv) (st : Int) (A1 : Option Addr) (c1 : Nat) (A2 : Option Addr) (c2 : Nat) (w : World)
    (hr : Kd.C (Kd.int .i64) w A1 rk.length rk) (hc1 : rk.length ≤ c1) (hM : Kd.C kA3 w A2 M.length M) (hc2 : M.length ≤ c2) :
    Calls Tryz.prog 19 #[.agg #[.slice A1 rk.length c1, .int .i64 st, .slice A2 M.length c2]] w fun e w' => e = .returned (.bool (auB rk st M)) ∧ Below w.heap.size w w' := by
  rw [← isR_eq]
  have HR := Aside0.mk hr
  have HM := Aside0.mk hM
  have HRK := Aside0.mk fun W (hW : Below w.heap.size w W) => ranksR_calls A1 c1 rk W (Kd.C_below hr hW) hc1
  have HS := Aside0.mk (TX.mk (below_alloc (Below.refl w.heap.size w) (.cells #[.slice A1 rk.length c1, .int .i64 st, .slice A2 M.length c2] 25)) (blk_new w (.cells #[.slice A1 rk.length c1, .int .i64 st, .slice A2 M.length c2] 25)))
  clear hr hc1 hM hc2
  go_enter Tryz.func19, Tryz.ntmps19
  go_upto_region 1 with (fail)
  generalize w.alloc (.cells #[.slice A1 rk.length c1, .int .i64 st, .slice A2 M.length c2] 25) = W1 at *
  have k0 : W1.cell? ⟨w.heap.size, 0, none⟩ = some (.slice A1 rk.length c1) := (blk_cell (HS.out).box 0).trans rfl
  have k2 : W1.cell? ⟨w.heap.size, 2, none⟩ = some (.slice A2 M.length c2) := (blk_cell (HS.out).box 2).trans rfl
  go_wp2_with fail
  refine (HRK.out _ (HS.out).hb).mono ?_
  rintro E W2 ⟨rfl, hb⟩
  have HS2 := Aside0.mk ((HS.out).below hb)
  clear hb HS HRK k0 k2
  have k0 : W2.cell? ⟨w.heap.size, 0, none⟩ = some (.slice A1 rk.length c1) := (blk_cell (HS2.out).box 0).trans rfl
  have k1 : W2.cell? ⟨w.heap.size, 1, none⟩ = some (.int .i64 st) := (blk_cell (HS2.out).box 1).trans rfl
  have k2 : W2.cell? ⟨w.heap.size, 2, none⟩ = some (.slice A2 M.length c2) := (blk_cell (HS2.out).box 2).trans rfl
  cases q0 : ranksB rk with
  | false =>
    have HV := Aside0.mk (show isR rk st M = false by rw [isR_unfold, q0]; rfl)
    clear q0
    go_wp2
    go_ret
    exact ⟨by rw [HV.out]; rfl, (HS2.out).hb⟩
  | true =>
  have HR0 := Aside0.mk q0
  clear q0
  cases q1 : decide ((M.length : Int) < 1) with
  | true =>
    have HV := Aside0.mk (show isR rk st M = false by have := of_decide_eq_true q1; rw [isR_unfold, decide_eq_false (show ¬ 1 ≤ M.length by omega)]; simp)
    go_wp2
    go_ret
    exact ⟨by rw [HV.out]; rfl, (HS2.out).hb⟩
  | false =>
  cases q2 : decide ((M.length : Int) > 6) with
  | true =>
    have HV := Aside0.mk (show isR rk st M = false by have := of_decide_eq_true q2; rw [isR_unfold, decide_eq_false (show ¬ M.length ≤ 6 by omega)]; simp)
    go_wp2
    go_ret
    exact ⟨by rw [HV.out]; rfl, (HS2.out).hb⟩
  | false =>
  cases q3 : decide (st < 0) with
  | true =>
    have HV := Aside0.mk (show isR rk st M = false by have := of_decide_eq_true q3; rw [isR_unfold, decide_eq_false (show ¬ 0 ≤ st by omega)]; simp)
    go_wp2
    go_ret
    exact ⟨by rw [HV.out]; rfl, (HS2.out).hb⟩
  | false =>
  cases q4 : decide (st ≥ (M.length : Int)) with
  | true =>
    have HV := Aside0.mk (show isR rk st M = false by have := of_decide_eq_true q4; rw [isR_unfold, decide_eq_false (show ¬ st < (M.length : Int) by omega)]; simp)
    go_wp2
    go_ret
    exact ⟨by rw [HV.out]; rfl, (HS2.out).hb⟩
  | false =>
  have HN := Aside0.mk (show 1 ≤ M.length ∧ M.length ≤ 6 ∧ 0 ≤ st ∧ st < (M.length : Int) from by have := of_decide_eq_false q1; have := of_decide_eq_false q2; have := of_decide_eq_false q3; have := of_decide_eq_false q4; omega)
  have HRL := Aside0.mk (show rk.length ≤ 24 from by
    have h := HR0.out
    unfold ranksB at h
    simp only [Bool.and_eq_true, decide_eq_true_eq] at h
    omega)
  have HVT := Aside0.mk (show (∀ q, q < M.length → rowR rk (M.length : Int) (M.getD q []) = true) → isR rk st M = true from fun h => by
    obtain ⟨h1, h2, h3, h4⟩ := HN.out
    rw [isR_unfold, HR0.out, decide_eq_true h1, decide_eq_true h2, decide_eq_true h3, decide_eq_true h4, Bool.true_and, Bool.true_and, Bool.true_and, Bool.true_and, Bool.true_and, allF_iff]
    exact fun q _ hq => h q (by omega))
  have HVF := Aside0.mk (show ∀ q, q < M.length → rowR rk (M.length : Int) (M.getD q []) = false → isR rk st M = false from fun q hq h => isR_row hq h)
  go_wp2
  clear k0 k1 k2 q1 q2 q3 q4
  go_loopg [37] M.length (fun gg v37 wi => ∃ q : Nat, q ≤ M.length ∧ M.length - q ≤ gg ∧ v37 = .int .i64 q ∧ Aside0 (TX w (.slice A1 rk.length c1) (.int .i64 st) (.slice A2 M.length c2) wi) ∧ Aside0 (∀ i, i < q → rowR rk (M.length : Int) (M.getD i []) = true))
  case atStart => exact ⟨0, Nat.zero_le _, Nat.le_refl _, rfl, HS2, ⟨fun i hi => absurd hi (Nat.not_lt_zero _)⟩⟩
  case round =>
    clear HS2
    obtain ⟨q, hq, hgg, rfl, HS, HP⟩ := hrel
    by_cases hlt : q < M.length
    · have hltz : (q : Int) < (M.length : Int) := by omega
      have HLT := Aside0.mk hlt
      have HKQ := Aside0.mk (show wrap64 ((q : Int) + 1) = ((q + 1 : Nat) : Int) by rw [wr_id (by omega) (by have := HN.out; omega)]; rfl)
      obtain ⟨ad, A3, c3, e, hk, hl3, hC3⟩ := at_sl HM.out q hlt
      subst e
      replace hk := pw_cell_below (HS.out).hb hk
      have HF := Aside0.mk (HVF.out q hlt)
      have HT := Aside0.mk (show rowR rk (M.length : Int) (M.getD q []) = true → ∀ i, i < q + 1 → rowR rk (M.length : Int) (M.getD i []) = true from fun h i hi => by
        rcases Nat.lt_or_ge i q with h2 | h2
        · exact HP.out i h2
        · rw [show i = q by omega]; exact h)
      have HC3 := Aside0.mk hC3
      have k0 : wr.cell? ⟨w.heap.size, 0, none⟩ = some (.slice A1 rk.length c1) := (blk_cell (HS.out).box 0).trans rfl
      clear hC3 hl3 HP hlt hq
      generalize M.getD q [] = row at *
      cases q5 : ((row.length : Int) != (rk.length : Int)) with
      | true =>
        have HV := Aside0.mk (HF.out (rowR_len (by have : ¬ (row.length : Int) = (rk.length : Int) := by simpa using q5
                                                   omega)))
        go_wp2
        go_ret
        exact ⟨by rw [HV.out]; rfl, (HS.out).hb⟩
      | false =>
      have HRW := Aside0.mk (show row.length = rk.length by have : (row.length : Int) = (rk.length : Int) := by simpa using q5
                                                            omega)
      go_wp2
      clear hk k0 q5 hltz
      go_loopg [49] row.length (fun gg v49 wi => ∃ f : Nat, f ≤ row.length ∧ row.length - f ≤ gg ∧ v49 = .int .i64 f ∧ Aside0 (TX w (.slice A1 rk.length c1) (.int .i64 st) (.slice (some ad) M.length c2) wi) ∧ Aside0 (∀ i, i < f → altsB (rk.getD i 0) (M.length : Int) (row.getD i []) = true))
      case atStart => exact ⟨0, Nat.zero_le _, Nat.le_refl _, rfl, HS, ⟨fun i hi => absurd hi (Nat.not_lt_zero _)⟩⟩
      case round =>
        clear HS
        obtain ⟨f, hf, hgg, rfl, HS, HP⟩ := hrel
        by_cases hlt : f < row.length
        · have hltz : (f : Int) < (row.length : Int) := by omega
          have hltr : (f : Int) < (rk.length : Int) := by have := HRW.out; omega
          have HLF := Aside0.mk hlt
          have HKF := Aside0.mk (show wrap64 ((f : Int) + 1) = ((f + 1 : Nat) : Int) by rw [wr_id (by omega) (by have := HRW.out; have := HRL.out; omega)]; rfl)
          obtain ⟨ad4, A4, c4, e, hk, hl4, hC4⟩ := at_sl HC3.out f hlt
          subst e
          obtain ⟨ad5, e, hk5⟩ := at_int HR.out f (by have := HRW.out; omega)
          subst e
          replace hk := pw_cell_below (HS.out).hb hk
          replace hk5 := pw_cell_below (HS.out).hb hk5
          have HF4 := Aside0.mk (show altsB (rk.getD f 0) (M.length : Int) (row.getD f []) = false → isR rk st M = false from fun h => HF.out (rowR_at hlt h))
          have HT4 := Aside0.mk (show altsB (rk.getD f 0) (M.length : Int) (row.getD f []) = true → ∀ i, i < f + 1 → altsB (rk.getD i 0) (M.length : Int) (row.getD i []) = true from fun h i hi => by
            rcases Nat.lt_or_ge i f with h2 | h2
            · exact HP.out i h2
            · rw [show i = f by omega]; exact h)
          have HC4 := Aside0.mk hC4
          have k0 : wr.cell? ⟨w.heap.size, 0, none⟩ = some (.slice (some ad5) rk.length c1) := (blk_cell (HS.out).box 0).trans rfl
          clear hC4 hl4 HP hlt hf
          generalize row.getD f [] = al at *
          generalize rk.getD f 0 = r at *
          have HAL := Aside0.mk (altsR_calls A4 c4 al r (M.length : Int) wr (Kd.C_below (HC4.out) (HS.out).hb))
          go_wp2_with fail
          refine (HAL.out).mono ?_
          rintro E W2 ⟨rfl, hb⟩
          have HS2 := Aside0.mk ((HS.out).below hb)
          clear hb hk hk5 k0 HAL HS
          cases q1 : altsB r (M.length : Int) al with
          | false =>
            have HV := Aside0.mk (HF4.out q1)
            clear q1
            go_wp2
            go_ret
            exact ⟨by rw [HV.out]; rfl, (HS2.out).hb⟩
          | true =>
            have HT5 := Aside0.mk (HT4.out q1)
            clear q1
            go_wp2
            go_roundg (row.length - (f + 1))
            case measure => have := HLF.out; omega
            case rel => exact ⟨f + 1, HLF.out, Nat.le_refl _, by rw [HKF.out], HS2, HT5⟩
        · obtain rfl : f = row.length := by omega
          have HT6 := Aside0.mk (HT.out (rowR_true HRW.out HP.out))
          clear HP hlt hf hgg
          go_wp2
          go_roundg (M.length - (q + 1))
          case measure => have := HLT.out; omega
          case rel => exact ⟨q + 1, HLT.out, Nat.le_refl _, by rw [HKQ.out], HS, HT6⟩
    · obtain rfl : q = M.length := by omega
      have HV := Aside0.mk (HVT.out HP.out)
      clear HP hlt hq hgg
      go_wp2
      go_ret
      exact ⟨by rw [HV.out]; rfl, (HS.out).hb⟩
end Go.Proofs.YtbmcigakiibncaaGreatDoor.H
namespace Go.Proofs.YtbmcigakiibncaaGreatDoor.H
open Go.RowKit Go.Proofs.YtbmcigakiibncaaGreatDoorW.PrintWords Go.Proofs.YtbmcigakiibncaaGreatDoorW.PrintLast Go.Proofs.YtbmcigakiibncaaGreatDoorW.PrintMore
set_option linter.unusedVariables false
set_option linter.unusedSimpArgs false
def eqF {α : Type} (d : α) (p : α → α → Bool) (a b : List α) : Bool := decide (a.length = b.length) && allF (fun i => p (a.getD i d) (b.getD i d)) 0 a.length
theorem eqF_iff {α : Type} {d : α} {p : α → α → Bool} (hp : ∀ x y, p x y = true ↔ x = y) (a b : List α) : eqF d p a b = true ↔ a = b := by
  unfold eqF
  rw [Bool.and_eq_true, allF_iff, decide_eq_true_eq]
  constructor
  · rintro ⟨h1, h2⟩
    refine List.ext_getElem h1 fun i hi hj => ?_
    have h3 := (hp _ _).1 (h2 i (Nat.zero_le _) (by omega))
    simpa [List.getD_eq_getElem?_getD, hi, hj] using h3
  · rintro rfl
    exact ⟨rfl, fun i _ _ => (hp _ _).2 rfl⟩
def ndEq (x y : Nd) : Bool := x.f0 == y.f0 && x.f1 == y.f1
theorem ndEq_iff (x y : Nd) : ndEq x y = true ↔ x = y := by
  cases x; cases y; simp [ndEq]
def eq1 : List Nd → List Nd → Bool := eqF zN ndEq
def eq2 : List (List Nd) → List (List Nd) → Bool := eqF [] eq1
def eq3 : List (List (List Nd)) → List (List (List Nd)) → Bool := eqF [] eq2
def eq4 : Mv → Mv → Bool := eqF [] eq3
theorem eq1_iff (a b : List Nd) : eq1 a b = true ↔ a = b := eqF_iff ndEq_iff a b
theorem eq2_iff (a b : List (List Nd)) : eq2 a b = true ↔ a = b := eqF_iff eq1_iff a b
theorem eq3_iff (a b : List (List (List Nd))) : eq3 a b = true ↔ a = b := eqF_iff eq2_iff a b
theorem eq4_iff (a b : Mv) : eq4 a b = true ↔ a = b := eqF_iff eq3_iff a b
theorem eqF_len {α : Type} {d : α} {p : α → α → Bool} {a b : List α} (h : a.length ≠ b.length) : eqF d p a b = false := by unfold eqF; rw [decide_eq_false h]; rfl
theorem eqF_at {α : Type} {d : α} {p : α → α → Bool} {a b : List α} {i : Nat} (hi : i < a.length) (h : p (a.getD i d) (b.getD i d) = false) : eqF d p a b = false := by
  cases e : eqF d p a b with
  | false => rfl
  | true =>
    unfold eqF at e
    rw [Bool.and_eq_true, allF_iff] at e
    have := e.2 i (Nat.zero_le _) (by omega)
    rw [h] at this; cases this
theorem eqF_all {α : Type} {d : α} {p : α → α → Bool} {a b : List α} (hl : a.length = b.length) (h : ∀ i, i < a.length → p (a.getD i d) (b.getD i d) = true) : eqF d p a b = true := by
  unfold eqF
  rw [decide_eq_true hl, Bool.true_and, allF_iff]
  exact fun i _ hi => h i (by omega)
theorem need_l0 (a b : List Nd) (hm : a.length ≤ 9223372036854775807) (hl : a.length = b.length) (d : Nat) : ∀ j : Nat, a.length - j = d → j ≤ a.length → Ev (fun k => Q.api_Need.l0 k a b (a.length : Int) (j : Int)) (allF (fun i => ndEq (a.getD i zN) (b.getD i zN)) j d) := by
  induction d with
  | zero =>
    intro j hd hj
    refine ev_end fun k => ?_
    simp only [Q.api_Need.l0]
    rw [if_neg (by omega)]; rfl
  | succ d ih =>
    intro j hd hj
    rw [allF]
    cases e : ndEq (a.getD j zN) (b.getD j zN) with
    | false =>
      rw [Bool.false_and]
      refine ev_end fun k => ?_
      simp only [Q.api_Need.l0]
      rw [rdN_at, rdN_at, if_pos (by omega), if_pos (by omega), if_pos (by omega), if_pos (by omega), if_pos]
      unfold ndEq at e
      rw [← Bool.not_and, e]; rfl
    | true =>
      rw [Bool.true_and]
      refine ev_next (ih (j + 1) (by omega) (by omega)) fun k => ?_
      simp only [Q.api_Need.l0]
      rw [rdN_at, rdN_at, if_pos (by omega), if_pos (by omega), if_pos (by omega), if_pos (by omega), if_neg, wrap_succ (by omega) (by omega)]
      · rfl
      · unfold ndEq at e
        rw [← Bool.not_and, e]; simp
theorem eq1_ev (a b : List Nd) (hm : a.length ≤ 9223372036854775807) : Ev (fun k => Q.api_Need.f k a b) (eq1 a b) := by
  unfold Q.api_Need.f
  by_cases hl : a.length = b.length
  · simp only [if_pos (show (a.length : Int) = (b.length : Int) by omega)]
    have h := need_l0 a b hm hl _ 0 rfl (Nat.zero_le _)
    unfold eq1 eqF
    rw [decide_eq_true hl, Bool.true_and]
    exact h
  · simp only [if_neg (show ¬ (a.length : Int) = (b.length : Int) by omega)]
    rw [show eq1 a b = false from eqF_len hl]
    exact ev_end fun k => rfl
theorem eq1_calls (A : Option Addr) (c : Nat) (a : List Nd) (B : Option Addr) (d : Nat) (b : List Nd) (w : World) (hA : Kd.C Q.k83 w A a.length a) (hc : a.length ≤ c) (hB : Kd.C Q.k83 w B b.length b) (hd : b.length ≤ d) :
    Calls Tryz.prog 85 #[.slice A a.length c, .slice B b.length d] w fun e w' => e = .returned (.bool (eq1 a b)) ∧ Below w.heap.size w w' := by
  obtain ⟨k, hk⟩ := (eq1_ev a b hA.2.1).rounds
  exact (Q.api_Need.calls k A c a B d b _ w hA hc hB hd hk).mono fun e w' h => ⟨h.1, h.2.below⟩
set_option maxHeartbeats 4000000 in
set_option maxRecDepth 100000 in
theorem eqf84_calls (A : Option Addr) (c : Nat) (a : List (List Nd)) (B : Option Addr) (d : Nat) (b : List (List Nd)) (w : World) (hA : Kd.C kA1 w A a.length a) (hc : a.length ≤ c) (hB : Kd.C kA1 w B b.length b) (hd : b.length ≤ d) :
    Calls Tryz.prog 84 #[.slice A a.length c, .slice B b.length d, .func (.func 85) #[] #[]] w fun e w' => e = .returned (.bool (eq2 a b)) ∧ Below w.heap.size w w' := by
  have HA := Aside0.mk hA
  have HB := Aside0.mk hB
  have HM := Aside0.mk (show a.length ≤ 9223372036854775807 from hA.2.1)
  clear hA hB
  cases q : ((a.length : Int) != (b.length : Int)) with
  | true =>
    have q0 : ¬ (a.length : Int) = (b.length : Int) := by simpa using q
    have HF := Aside0.mk (show eq2 a b = false from eqF_len (by omega))
    clear q0
    go_enter Tryz.func84, Tryz.ntmps84
    go_wp2
    go_ret
    exact ⟨by rw [HF.out]; rfl, Below.refl _ _⟩
  | false =>
    have q0 : (a.length : Int) = (b.length : Int) := by simpa using q
    have HL := Aside0.mk (show a.length = b.length by omega)
    clear q0
    go_enter Tryz.func84, Tryz.ntmps84
    go_wp2
    clear q
    go_loopg [17] a.length (fun gg v17 wi => ∃ j : Nat, j ≤ a.length ∧ a.length - j ≤ gg ∧ v17 = .int .i64 j ∧ Aside0 (Below w.heap.size w wi) ∧ Aside0 (∀ i, i < j → eq1 (a.getD i []) (b.getD i []) = true))
    case atStart => exact ⟨0, Nat.zero_le _, Nat.le_refl _, rfl, ⟨Below.refl _ _⟩, ⟨fun i hi => absurd hi (Nat.not_lt_zero _)⟩⟩
    case round =>
      obtain ⟨j, hj, hgg, rfl, HW, HP⟩ := hrel
      by_cases hlt : j < a.length
      · have hltz : (j : Int) < (a.length : Int) := by omega
        have hltb : (j : Int) < (b.length : Int) := by have := HL.out; omega
        have HLT := Aside0.mk hlt
        have HKZ := Aside0.mk (show wrap64 ((j : Int) + 1) = ((j + 1 : Nat) : Int) by rw [wr_id (by omega) (by have := HM.out; omega)]; rfl)
        obtain ⟨ad, A1, c1, e, hx0, hl1, hC1⟩ := at_sl HA.out j hlt
        subst e
        obtain ⟨bd, B1, d1, e, hy0, hl2, hD1⟩ := at_sl HB.out j (by have := HL.out; omega)
        subst e
        replace hx0 := pw_cell_below HW.out hx0
        replace hy0 := pw_cell_below HW.out hy0
        have HG := Aside0.mk (eq1_calls A1 c1 (a.getD j []) B1 d1 (b.getD j []) wr (Kd.C_below hC1 HW.out) hl1 (Kd.C_below hD1 HW.out) hl2)
        have HV := Aside0.mk (show eq1 (a.getD j []) (b.getD j []) = false → eq2 a b = false from fun h => eqF_at hlt h)
        have HT := Aside0.mk (show eq1 (a.getD j []) (b.getD j []) = true → ∀ i, i < j + 1 → eq1 (a.getD i []) (b.getD i []) = true from fun h i hi => by
          rcases Nat.lt_or_ge i j with h2 | h2
          · exact HP.out i h2
          · rw [show i = j by omega]; exact h)
        clear hlt hj hl1 hl2 hC1 hD1 HP
        generalize a.getD j [] = x at *
        generalize b.getD j [] = y at *
        go_wp2_with fail
        refine (HG.out).mono ?_
        rintro E W2 ⟨rfl, hb⟩
        have HW2 := Aside0.mk (below_then HW.out (HW.out).size hb)
        clear hb hx0 hy0
        cases hv : eq1 x y with
        | false =>
          have HF := Aside0.mk (HV.out hv)
          clear hv
          go_wp2
          go_ret
          exact ⟨by rw [HF.out]; rfl, HW2.out⟩
        | true =>
          have HT2 := Aside0.mk (HT.out hv)
          clear hv
          go_wp2
          go_roundg (a.length - (j + 1))
          case measure => have := HLT.out; omega
          case rel => exact ⟨j + 1, HLT.out, Nat.le_refl _, by rw [HKZ.out], HW2, HT2⟩
      · obtain rfl : j = a.length := by omega
        have HF := Aside0.mk (show eq2 a b = true from eqF_all HL.out HP.out)
        clear hlt hj hgg HP
        go_wp2
        go_ret
        exact ⟨by rw [HF.out]; rfl, HW.out⟩
set_option maxRecDepth 100000 in
theorem eqc83_calls (A : Option Addr) (c : Nat) (a : List (List Nd)) (B : Option Addr) (d : Nat) (b : List (List Nd)) (w : World) (hA : Kd.C kA1 w A a.length a) (hc : a.length ≤ c) (hB : Kd.C kA1 w B b.length b) (hd : b.length ≤ d) :
    Calls Tryz.prog 83 #[.slice A a.length c, .slice B b.length d] w fun e w' => e = .returned (.bool (eq2 a b)) ∧ Below w.heap.size w w' := by
  have H := Aside0.mk (eqf84_calls A c a B d b w hA hc hB hd)
  have hmf := run_mkfun
  clear hA hB
  go_enter Tryz.func83, Tryz.ntmps83
  go_wp2_with fail
  refine (H.out).mono ?_
  rintro E W2 ⟨rfl, hb⟩
  have HB := Aside0.mk hb
  clear hb
  go_wp2
  go_ret
  exact ⟨rfl, HB.out⟩
set_option maxHeartbeats 4000000 in
set_option maxRecDepth 100000 in
theorem eqf82_calls (A : Option Addr) (c : Nat) (a : List (List (List Nd))) (B : Option Addr) (d : Nat) (b : List (List (List Nd))) (w : World) (hA : Kd.C kA2 w A a.length a) (hc : a.length ≤ c) (hB : Kd.C kA2 w B b.length b) (hd : b.length ≤ d) :
    Calls Tryz.prog 82 #[.slice A a.length c, .slice B b.length d, .func (.func 83) #[] #[]] w fun e w' => e = .returned (.bool (eq3 a b)) ∧ Below w.heap.size w w' := by
  have HA := Aside0.mk hA
  have HB := Aside0.mk hB
  have HM := Aside0.mk (show a.length ≤ 9223372036854775807 from hA.2.1)
  clear hA hB
  cases q : ((a.length : Int) != (b.length : Int)) with
  | true =>
    have q0 : ¬ (a.length : Int) = (b.length : Int) := by simpa using q
    have HF := Aside0.mk (show eq3 a b = false from eqF_len (by omega))
    clear q0
    go_enter Tryz.func82, Tryz.ntmps82
    go_wp2
    go_ret
    exact ⟨by rw [HF.out]; rfl, Below.refl _ _⟩
  | false =>
    have q0 : (a.length : Int) = (b.length : Int) := by simpa using q
    have HL := Aside0.mk (show a.length = b.length by omega)
    clear q0
    go_enter Tryz.func82, Tryz.ntmps82
    go_wp2
    clear q
    go_loopg [17] a.length (fun gg v17 wi => ∃ j : Nat, j ≤ a.length ∧ a.length - j ≤ gg ∧ v17 = .int .i64 j ∧ Aside0 (Below w.heap.size w wi) ∧ Aside0 (∀ i, i < j → eq2 (a.getD i []) (b.getD i []) = true))
    case atStart => exact ⟨0, Nat.zero_le _, Nat.le_refl _, rfl, ⟨Below.refl _ _⟩, ⟨fun i hi => absurd hi (Nat.not_lt_zero _)⟩⟩
    case round =>
      obtain ⟨j, hj, hgg, rfl, HW, HP⟩ := hrel
      by_cases hlt : j < a.length
      · have hltz : (j : Int) < (a.length : Int) := by omega
        have hltb : (j : Int) < (b.length : Int) := by have := HL.out; omega
        have HLT := Aside0.mk hlt
        have HKZ := Aside0.mk (show wrap64 ((j : Int) + 1) = ((j + 1 : Nat) : Int) by rw [wr_id (by omega) (by have := HM.out; omega)]; rfl)
        obtain ⟨ad, A1, c1, e, hx0, hl1, hC1⟩ := at_sl HA.out j hlt
        subst e
        obtain ⟨bd, B1, d1, e, hy0, hl2, hD1⟩ := at_sl HB.out j (by have := HL.out; omega)
        subst e
        replace hx0 := pw_cell_below HW.out hx0
        replace hy0 := pw_cell_below HW.out hy0
        have HG := Aside0.mk (eqc83_calls A1 c1 (a.getD j []) B1 d1 (b.getD j []) wr (Kd.C_below hC1 HW.out) hl1 (Kd.C_below hD1 HW.out) hl2)
        have HV := Aside0.mk (show eq2 (a.getD j []) (b.getD j []) = false → eq3 a b = false from fun h => eqF_at hlt h)
        have HT := Aside0.mk (show eq2 (a.getD j []) (b.getD j []) = true → ∀ i, i < j + 1 → eq2 (a.getD i []) (b.getD i []) = true from fun h i hi => by
          rcases Nat.lt_or_ge i j with h2 | h2
          · exact HP.out i h2
          · rw [show i = j by omega]; exact h)
        clear hlt hj hl1 hl2 hC1 hD1 HP
        generalize a.getD j [] = x at *
        generalize b.getD j [] = y at *
        go_wp2_with fail
        refine (HG.out).mono ?_
        rintro E W2 ⟨rfl, hb⟩
        have HW2 := Aside0.mk (below_then HW.out (HW.out).size hb)
        clear hb hx0 hy0
        cases hv : eq2 x y with
        | false =>
          have HF := Aside0.mk (HV.out hv)
          clear hv
          go_wp2
          go_ret
          exact ⟨by rw [HF.out]; rfl, HW2.out⟩
        | true =>
          have HT2 := Aside0.mk (HT.out hv)
          clear hv
          go_wp2
          go_roundg (a.length - (j + 1))
          case measure => have := HLT.out; omega
          case rel => exact ⟨j + 1, HLT.out, Nat.le_refl _, by rw [HKZ.out], HW2, HT2⟩
      · obtain rfl : j = a.length := by omega
        have HF := Aside0.mk (show eq3 a b = true from eqF_all HL.out HP.out)
        clear hlt hj hgg HP
        go_wp2
        go_ret
        exact ⟨by rw [HF.out]; rfl, HW.out⟩
set_option maxRecDepth 100000 in
theorem eqc81_calls (A : Option Addr) (c : Nat) (a : List (List (List Nd))) (B : Option Addr) (d : Nat) (b : List (List (List Nd))) (w : World) (hA : Kd.C kA2 w A a.length a) (hc : a.length ≤ c) (hB : Kd.C kA2 w B b.length b) (hd : b.length ≤ d) :
    Calls Tryz.prog 81 #[.slice A a.length c, .slice B b.length d] w fun e w' => e = .returned (.bool (eq3 a b)) ∧ Below w.heap.size w w' := by
  have H := Aside0.mk (eqf82_calls A c a B d b w hA hc hB hd)
  have hmf := run_mkfun
  clear hA hB
  go_enter Tryz.func81, Tryz.ntmps81
  go_wp2_with fail
  refine (H.out).mono ?_
  rintro E W2 ⟨rfl, hb⟩
  have HB := Aside0.mk hb
  clear hb
  go_wp2
  go_ret
  exact ⟨rfl, HB.out⟩
set_option maxHeartbeats 4000000 in
set_option maxRecDepth 100000 in
theorem eqf80_calls (A : Option Addr) (c : Nat) (a : Mv) (B : Option Addr) (d : Nat) (b : Mv) (w : World) (hA : Kd.C kA3 w A a.length a) (hc : a.length ≤ c) (hB : Kd.C kA3 w B b.length b) (hd : b.length ≤ d) :
    Calls Tryz.prog 80 #[.slice A a.length c, .slice B b.length d, .func (.func 81) #[] #[]] w fun e w' => e = .returned (.bool (eq4 a b)) ∧ Below w.heap.size w w' := by
  have HA := Aside0.mk hA
  have HB := Aside0.mk hB
  have HM := Aside0.mk (show a.length ≤ 9223372036854775807 from hA.2.1)
  clear hA hB
  cases q : ((a.length : Int) != (b.length : Int)) with
  | true =>
    have q0 : ¬ (a.length : Int) = (b.length : Int) := by simpa using q
    have HF := Aside0.mk (show eq4 a b = false from eqF_len (by omega))
    clear q0
    go_enter Tryz.func80, Tryz.ntmps80
    go_wp2
    go_ret
    exact ⟨by rw [HF.out]; rfl, Below.refl _ _⟩
  | false =>
    have q0 : (a.length : Int) = (b.length : Int) := by simpa using q
    have HL := Aside0.mk (show a.length = b.length by omega)
    clear q0
    go_enter Tryz.func80, Tryz.ntmps80
    go_wp2
    clear q
    go_loopg [17] a.length (fun gg v17 wi => ∃ j : Nat, j ≤ a.length ∧ a.length - j ≤ gg ∧ v17 = .int .i64 j ∧ Aside0 (Below w.heap.size w wi) ∧ Aside0 (∀ i, i < j → eq3 (a.getD i []) (b.getD i []) = true))
    case atStart => exact ⟨0, Nat.zero_le _, Nat.le_refl _, rfl, ⟨Below.refl _ _⟩, ⟨fun i hi => absurd hi (Nat.not_lt_zero _)⟩⟩
    case round =>
      obtain ⟨j, hj, hgg, rfl, HW, HP⟩ := hrel
      by_cases hlt : j < a.length
      · have hltz : (j : Int) < (a.length : Int) := by omega
        have hltb : (j : Int) < (b.length : Int) := by have := HL.out; omega
        have HLT := Aside0.mk hlt
        have HKZ := Aside0.mk (show wrap64 ((j : Int) + 1) = ((j + 1 : Nat) : Int) by rw [wr_id (by omega) (by have := HM.out; omega)]; rfl)
        obtain ⟨ad, A1, c1, e, hx0, hl1, hC1⟩ := at_sl HA.out j hlt
        subst e
        obtain ⟨bd, B1, d1, e, hy0, hl2, hD1⟩ := at_sl HB.out j (by have := HL.out; omega)
        subst e
        replace hx0 := pw_cell_below HW.out hx0
        replace hy0 := pw_cell_below HW.out hy0
        have HG := Aside0.mk (eqc81_calls A1 c1 (a.getD j []) B1 d1 (b.getD j []) wr (Kd.C_below hC1 HW.out) hl1 (Kd.C_below hD1 HW.out) hl2)
        have HV := Aside0.mk (show eq3 (a.getD j []) (b.getD j []) = false → eq4 a b = false from fun h => eqF_at hlt h)
        have HT := Aside0.mk (show eq3 (a.getD j []) (b.getD j []) = true → ∀ i, i < j + 1 → eq3 (a.getD i []) (b.getD i []) = true from fun h i hi => by
          rcases Nat.lt_or_ge i j with h2 | h2
          · exact HP.out i h2
          · rw [show i = j by omega]; exact h)
        clear hlt hj hl1 hl2 hC1 hD1 HP
        generalize a.getD j [] = x at *
        generalize b.getD j [] = y at *
        go_wp2_with fail
        refine (HG.out).mono ?_
        rintro E W2 ⟨rfl, hb⟩
        have HW2 := Aside0.mk (below_then HW.out (HW.out).size hb)
        clear hb hx0 hy0
        cases hv : eq3 x y with
        | false =>
          have HF := Aside0.mk (HV.out hv)
          clear hv
          go_wp2
          go_ret
          exact ⟨by rw [HF.out]; rfl, HW2.out⟩
        | true =>
          have HT2 := Aside0.mk (HT.out hv)
          clear hv
          go_wp2
          go_roundg (a.length - (j + 1))
          case measure => have := HLT.out; omega
          case rel => exact ⟨j + 1, HLT.out, Nat.le_refl _, by rw [HKZ.out], HW2, HT2⟩
      · obtain rfl : j = a.length := by omega
        have HF := Aside0.mk (show eq4 a b = true from eqF_all HL.out HP.out)
        clear hlt hj hgg HP
        go_wp2
        go_ret
        exact ⟨by rw [HF.out]; rfl, HW.out⟩
end Go.Proofs.YtbmcigakiibncaaGreatDoor.H
