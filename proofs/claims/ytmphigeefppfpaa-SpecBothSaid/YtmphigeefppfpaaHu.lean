/- What a breadth-first table says of its steps. Plain Lean. -/
import Derived.Test.YtmphigeefppfpaaHt
namespace Go.Proofs.YtmphigeefppfpaaW.PrintWords
set_option linter.unusedVariables false
section
variable {α : Type} [DecidableEq α] {n m : Nat} {step : α → Nat → α × Bool} {start : α}
theorem place_pre {q r : List α} {y : α} (h : y ∈ q) : place y (q ++ r) = place y q := by
  unfold place
  rw [List.idxOf_append, if_pos h]
theorem ins_mem (q : List α) (y : α) : y ∈ ins q y := by
  unfold ins
  split
  · assumption
  · simp
theorem ins_sub {q : List α} {y z : α} (h : z ∈ q) : z ∈ ins q y := by
  obtain ⟨r, hr⟩ := ins_pre q y
  rw [hr]; exact List.mem_append_left _ h
theorem place_ins (q : List α) (y : α) : place y (ins q y) = place y q := by
  unfold ins
  split
  · rfl
  · rename_i h
    rw [place_new h, place, List.idxOf_append, if_neg h]
    simp
/-- A row's entry at e is right for the queue q. -/
def Right (step : α → Nat → α × Bool) (x : α) (q : List α) (e : Nat) (r : Int) : Prop := if (step x e).2 then (step x e).1 ∈ q ∧ r = (place (step x e).1 q : Int) else r = -1
theorem Right.more {x : α} {q r : List α} {e : Nat} {v : Int} (h : Right step x q e v) : Right step x (q ++ r) e v := by
  unfold Right at h ⊢
  split
  · rename_i ho
    rw [if_pos ho] at h
    exact ⟨List.mem_append_left _ h.1, by rw [place_pre h.1]; exact h.2⟩
  · rename_i ho
    rwa [if_neg ho] at h
theorem rowTo_right (x : α) (q : List α) : ∀ e j, j < e → Right step x (rowTo step x q e).2 j ((rowTo step x q e).1.getD j 0)
  | 0, j, h => absurd h (Nat.not_lt_zero _)
  | e + 1, j, h => by
    have ih := rowTo_right x q e
    have hl := rowTo_len (step := step) (x := x) (q := q) (e := e)
    simp only [rowTo]
    by_cases ho : (step x e).2 = true
    · simp only [ho, if_true]
      obtain ⟨r, hr⟩ := ins_pre (rowTo step x q e).2 (step x e).1
      rcases Nat.lt_or_ge j e with hj | hj
      · rw [List.getD_eq_getElem?_getD, List.getElem?_append_left (by omega), ← List.getD_eq_getElem?_getD]
        have := (ih j hj).more (r := r)
        rwa [← hr] at this
      · obtain rfl : j = e := by omega
        rw [List.getD_eq_getElem?_getD, List.getElem?_append_right (by omega), hl, Nat.sub_self]
        unfold Right
        rw [if_pos ho]
        refine ⟨ins_mem _ _, ?_⟩
        rw [place_ins]
        rfl
    · have ho' : (step x e).2 = false := by simpa using ho
      simp only [ho', Bool.false_eq_true, if_false]
      rcases Nat.lt_or_ge j e with hj | hj
      · rw [List.getD_eq_getElem?_getD, List.getElem?_append_left (by omega), ← List.getD_eq_getElem?_getD]
        exact ih j hj
      · obtain rfl : j = e := by omega
        rw [List.getD_eq_getElem?_getD, List.getElem?_append_right (by omega), hl, Nat.sub_self]
        unfold Right
        rw [if_neg ho]; rfl
/-- What stands after i rounds. -/
theorem bfs_rows : ∀ i, ∃ r, (bfsTo n step start i).2 = start :: r ∧ (bfsTo n step start i).1.length ≤ (bfsTo n step start i).2.length ∧ ((bfsTo n step start i).1.length = i ∨ ¬ i < (bfsTo n step start i).2.length ∧ (bfsTo n step start i).1.length = (bfsTo n step start i).2.length) ∧
    ∀ j x, j < (bfsTo n step start i).1.length → (bfsTo n step start i).2[j]? = some x → ((bfsTo n step start i).1.getD j []).length = n ∧ ∀ e, e < n → Right step x (bfsTo n step start i).2 e (((bfsTo n step start i).1.getD j []).getD e 0)
  | 0 => ⟨[], rfl, by simp [bfsTo], .inl rfl, fun j x hj => by simp [bfsTo] at hj⟩
  | i + 1 => by
    obtain ⟨r, hr, hle, hlen, hrow⟩ := bfs_rows i
    by_cases h : i < (bfsTo n step start i).2.length
    · have hi : (bfsTo n step start i).1.length = i := by
        rcases hlen with h1 | h1
        · exact h1
        · exact absurd h h1.1
      rw [bfsTo_step h]
      obtain ⟨r2, hr2⟩ := rowTo_pre (step := step) (x := (bfsTo n step start i).2[i]) (q := (bfsTo n step start i).2) (e := n)
      simp only
      refine ⟨r ++ r2, by rw [hr2, hr]; rfl, by rw [hr2]; simp; omega, .inl (by simp [hi]), fun j x hj hx => ?_⟩
      rcases Nat.lt_or_ge j i with hji | hji
      · have hx' : (bfsTo n step start i).2[j]? = some x := by
          rw [hr2, List.getElem?_append_left (by omega)] at hx; exact hx
        obtain ⟨h1, h2⟩ := hrow j x (by omega) hx'
        rw [List.getD_eq_getElem?_getD, List.getElem?_append_left (by omega), ← List.getD_eq_getElem?_getD]
        refine ⟨h1, fun e he => ?_⟩
        have := (h2 e he).more (r := r2)
        rwa [← hr2] at this
      · obtain rfl : j = i := by simp at hj; omega
        have hx' : (bfsTo n step start j).2[j] = x := by
          rw [hr2, List.getElem?_append_left h, List.getElem?_eq_getElem h] at hx
          exact Option.some.inj hx
        rw [List.getD_eq_getElem?_getD, List.getElem?_append_right (by omega), hi, Nat.sub_self]
        simp only [List.getElem?_cons_zero, Option.getD_some]
        refine ⟨rowTo_len, fun e he => ?_⟩
        rw [hx']
        exact rowTo_right x _ n e he
    · rw [bfsTo_stop h]
      refine ⟨r, hr, hle, .inr ⟨by omega, ?_⟩, hrow⟩
      rcases hlen with h1 | h1
      · omega
      · exact h1.2
/-- A finished table. -/
theorem bfs_done (hm : (bfsTo n step start m).2.length ≤ m) : (bfsTo n step start m).1.length = (bfsTo n step start m).2.length ∧ (∃ r, (bfsTo n step start m).2 = start :: r) ∧
    ∀ j x, (bfsTo n step start m).2[j]? = some x → ((bfsTo n step start m).1.getD j []).length = n ∧ ∀ e, e < n → Right step x (bfsTo n step start m).2 e (((bfsTo n step start m).1.getD j []).getD e 0) := by
  obtain ⟨r, hr, hle, hlen, hrow⟩ := bfs_rows (n := n) (step := step) (start := start) m
  have hl : (bfsTo n step start m).1.length = (bfsTo n step start m).2.length := by
    rcases hlen with h | h
    · omega
    · exact h.2
  refine ⟨hl, ⟨r, hr⟩, fun j x hx => hrow j x ?_ hx⟩
  have := (List.getElem?_eq_some_iff.1 hx).1
  omega
end
end Go.Proofs.YtmphigeefppfpaaW.PrintWords
