/- Breadth-first numbering, as lists: plain Lean. -/
import Derived.Test.YtmphigeefppfpaaHm
namespace Go.Proofs.YtmphigeefppfpaaW.PrintWords

/-- The place on the queue. -/
def place {α : Type} [DecidableEq α] (y : α) (q : List α) : Nat := q.idxOf y
theorem zip_keys {β : Type} (q : List β) : q.zipIdx.map (·.1) = q := by simp
section
variable {α : Type} [DecidableEq α]
/-- The queue, with y on it. -/
def ins (q : List α) (y : α) : List α := if y ∈ q then q else q ++ [y]
/-- The row of x behind its first e events, and the queue then. -/
def rowTo (step : α → Nat → α × Bool) (x : α) (q : List α) : Nat → List Int × List α
  | 0 => ([], q)
  | e + 1 => if (step x e).2 then ((rowTo step x q e).1 ++ [((rowTo step x q e).2.idxOf (step x e).1 : Int)], ins (rowTo step x q e).2 (step x e).1) else ((rowTo step x q e).1 ++ [-1], (rowTo step x q e).2)
/-- The rows, and the queue, behind i rounds. -/
def bfsTo (n : Nat) (step : α → Nat → α × Bool) (start : α) : Nat → List (List Int) × List α
  | 0 => ([], [start])
  | i + 1 => match (bfsTo n step start i).2[i]? with
    | some x => ((bfsTo n step start i).1 ++ [(rowTo step x (bfsTo n step start i).2 n).1], (rowTo step x (bfsTo n step start i).2 n).2)
    | none => bfsTo n step start i

variable {step : α → Nat → α × Bool} {x y : α} {q : List α} {n e m i : Nat} {start : α}
theorem ins_pre (q : List α) (y : α) : ∃ r, ins q y = q ++ r := by
  unfold ins
  split
  · exact ⟨[], by simp⟩
  · exact ⟨[y], rfl⟩
theorem rowTo_len : (rowTo step x q e).1.length = e := by
  induction e with
  | zero => rfl
  | succ e ih => simp only [rowTo]; split <;> simp [ih]
theorem rowTo_pre : ∃ r, (rowTo step x q e).2 = q ++ r := by
  induction e with
  | zero => exact ⟨[], by simp [rowTo]⟩
  | succ e ih =>
    obtain ⟨r, hr⟩ := ih
    simp only [rowTo]
    split
    · obtain ⟨r2, h2⟩ := ins_pre (rowTo step x q e).2 (step x e).1
      exact ⟨r ++ r2, by simp only; rw [h2, hr, List.append_assoc]⟩
    · exact ⟨r, hr⟩
theorem rowTo_mono {e' : Nat} (h : e ≤ e') : (rowTo step x q e).2.length ≤ (rowTo step x q e').2.length := by
  induction e' with
  | zero => obtain rfl : e = 0 := by omega
            exact Nat.le_refl _
  | succ e' ih =>
    rcases Nat.lt_or_ge e (e' + 1) with h1 | h1
    · refine Nat.le_trans (ih (by omega)) ?_
      simp only [rowTo]
      split
      · obtain ⟨r2, h2⟩ := ins_pre (rowTo step x q e').2 (step x e').1
        simp only; rw [h2]; simp
      · exact Nat.le_refl _
    · obtain rfl : e = e' + 1 := by omega
      exact Nat.le_refl _
theorem bfsTo_step (h : i < (bfsTo n step start i).2.length) : bfsTo n step start (i + 1) = ((bfsTo n step start i).1 ++ [(rowTo step ((bfsTo n step start i).2[i]) (bfsTo n step start i).2 n).1], (rowTo step ((bfsTo n step start i).2[i]) (bfsTo n step start i).2 n).2) := by
  simp only [bfsTo]
  rw [List.getElem?_eq_getElem h]
theorem bfsTo_stop (h : ¬ i < (bfsTo n step start i).2.length) : bfsTo n step start (i + 1) = bfsTo n step start i := by
  simp only [bfsTo]
  rw [List.getElem?_eq_none (by omega)]
theorem bfsTo_out : (bfsTo n step start i).1.length ≤ i := by
  induction i with
  | zero => simp [bfsTo]
  | succ i ih =>
    by_cases h : i < (bfsTo n step start i).2.length
    · rw [bfsTo_step h]; simp; omega
    · rw [bfsTo_stop h]; omega
theorem bfsTo_mono1 : (bfsTo n step start i).2.length ≤ (bfsTo n step start (i + 1)).2.length := by
  by_cases h : i < (bfsTo n step start i).2.length
  · rw [bfsTo_step h]
    exact rowTo_mono (e := 0) (Nat.zero_le n)
  · rw [bfsTo_stop h]; exact Nat.le_refl _
theorem bfsTo_mono (h : i ≤ m) : (bfsTo n step start i).2.length ≤ (bfsTo n step start m).2.length := by
  induction m with
  | zero => obtain rfl : i = 0 := by omega
            exact Nat.le_refl _
  | succ m ih =>
    rcases Nat.lt_or_ge i (m + 1) with h1 | h1
    · exact Nat.le_trans (ih (by omega)) bfsTo_mono1
    · obtain rfl : i = m + 1 := by omega
      exact Nat.le_refl _
theorem bfsTo_stays (h : ¬ i < (bfsTo n step start i).2.length) (d : Nat) : bfsTo n step start (i + d) = bfsTo n step start i := by
  induction d with
  | zero => rfl
  | succ d ih =>
    rw [← Nat.add_assoc, bfsTo_stop (by rw [ih]; omega), ih]
/-- The place in the queue, as the map says it. -/
theorem mget_zip (q : List α) (y : α) : mget y q.zipIdx = if y ∈ q then some (q.idxOf y) else none := by
  have key : ∀ (q : List α) (k : Nat), mget y (q.zipIdx k) = if y ∈ q then some (q.idxOf y + k) else none := by
    intro q
    induction q with
    | nil => intro k; simp [mget]
    | cons z r ih =>
      intro k
      have h := ih (k + 1)
      simp only [mget] at h
      by_cases hz : z = y
      · subst hz; simp [mget]
      · simp only [List.zipIdx_cons, mget, List.find?_cons, decide_eq_false hz, List.mem_cons, Ne.symm hz, false_or]
        rw [h, List.idxOf_cons]
        simp only [beq_eq_false_iff_ne.2 hz, cond_false]
        split
        · congr 1; omega
        · rfl
  have := key q 0
  simpa using this
theorem mget_place (q : List α) (y : α) : mget y q.zipIdx = if y ∈ q then some (place y q) else none := mget_zip q y
theorem place_new {q : List α} {y : α} (h : y ∉ q) : place y q = q.length := List.idxOf_eq_length h
theorem place_le (q : List α) (y : α) : place y q ≤ q.length := List.idxOf_le_length
theorem mput_zip {q : List α} {y : α} (h : y ∉ q) : mput y q.length q.zipIdx = (q ++ [y]).zipIdx := by
  rw [mput_new (by rw [zip_keys]; exact h), List.zipIdx_append]
  simp
theorem idxOf_new {q : List α} {y : α} (h : y ∉ q) : q.idxOf y = q.length := List.idxOf_eq_length h
theorem set_next {r : List Int} {e n : Nat} (hr : r.length = e) (he : e < n) (v : Int) : (r ++ List.replicate (n - e) 0).set e v = (r ++ [v]) ++ List.replicate (n - (e + 1)) 0 := by
  obtain ⟨d, hd⟩ : ∃ d, n - e = d + 1 := ⟨n - e - 1, by omega⟩
  rw [hd, show n - (e + 1) = d from by omega, List.set_append_right _ _ (by omega), hr, Nat.sub_self, List.replicate_succ, List.set_cons_zero, List.append_assoc]
  rfl
theorem set_last {r : List Int} {e : Nat} {t : List Int} (hr : r.length = e) (u v : Int) : ((r ++ [u]) ++ t).set e v = (r ++ [v]) ++ t := by
  rw [List.append_assoc, List.append_assoc, List.set_append_right _ _ (by omega), hr, Nat.sub_self]
  rfl
/-- What is on the queue. -/
theorem ins_all {D : α → Prop} (hq : ∀ y ∈ q, D y) (hy : D y) : ∀ z ∈ ins q y, D z := by
  unfold ins
  split
  · exact hq
  · intro z hz
    rcases List.mem_append.1 hz with hz | hz
    · exact hq z hz
    · rw [List.mem_singleton.1 hz]; exact hy
theorem ins_nodup (hq : q.Nodup) : (ins q y).Nodup := by
  unfold ins
  split
  · exact hq
  · rename_i h
    exact List.nodup_append.2 ⟨hq, by simp, fun a ha b hb => by rw [List.mem_singleton.1 hb]; exact fun e => h (e ▸ ha)⟩
theorem rowTo_all {D : α → Prop} (hstep : ∀ e, e < n → (step x e).2 = true → D (step x e).1) (hq : ∀ y ∈ q, D y) : ∀ e, e ≤ n → ∀ z ∈ (rowTo step x q e).2, D z := by
  intro e
  induction e with
  | zero => intro _; exact hq
  | succ e ih =>
    intro he
    simp only [rowTo]
    split
    · rename_i h
      exact ins_all (ih (by omega)) (hstep e (by omega) h)
    · exact ih (by omega)
theorem rowTo_nodup (hq : q.Nodup) : (rowTo step x q e).2.Nodup := by
  induction e with
  | zero => exact hq
  | succ e ih =>
    simp only [rowTo]
    split
    · exact ins_nodup ih
    · exact ih
theorem bfsTo_all {D : α → Prop} (hstep : ∀ x e, D x → e < n → (step x e).2 = true → D (step x e).1) (h0 : D start) : ∀ i, ∀ z ∈ (bfsTo n step start i).2, D z := by
  intro i
  induction i with
  | zero => intro z hz; rw [List.mem_singleton.1 hz]; exact h0
  | succ i ih =>
    by_cases h : i < (bfsTo n step start i).2.length
    · rw [bfsTo_step h]
      exact rowTo_all (n := n) (fun e he hs => hstep _ e (ih _ (List.getElem_mem h)) he hs) ih n (Nat.le_refl _)
    · rw [bfsTo_stop h]; exact ih
theorem bfsTo_nodup : ∀ i, (bfsTo n step start i).2.Nodup := by
  intro i
  induction i with
  | zero => simp [bfsTo]
  | succ i ih =>
    by_cases h : i < (bfsTo n step start i).2.length
    · rw [bfsTo_step h]; exact rowTo_nodup ih
    · rw [bfsTo_stop h]; exact ih
end
end Go.Proofs.YtmphigeefppfpaaW.PrintWords
