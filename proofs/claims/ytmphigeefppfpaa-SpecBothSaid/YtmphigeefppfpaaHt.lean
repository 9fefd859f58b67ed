/- Deterministic automata with partial steps: words, classes, and that a reduced breadth-first table is unique. Plain Lean. -/
import Derived.Test.YtmphigeefppfpaaHp
namespace Go.Proofs.YtmphigeefppfpaaW.PrintWords
set_option linter.unusedVariables false

section
variable {α β γ : Type}
/-- Can the word be read from x? -/
def acc (step : α → Nat → α × Bool) : α → List Nat → Bool
  | _, [] => true
  | x, e :: w => (step x e).2 && acc step (step x e).1 w
def Wd (n : Nat) (w : List Nat) : Prop := ∀ e ∈ w, e < n
/-- The same words of at most k events. -/
def Ek (n : Nat) (s1 : α → Nat → α × Bool) (s2 : β → Nat → β × Bool) (k : Nat) (x : α) (y : β) : Prop := ∀ w, w.length ≤ k → Wd n w → acc s1 x w = acc s2 y w
def Lq (n : Nat) (s1 : α → Nat → α × Bool) (s2 : β → Nat → β × Bool) (x : α) (y : β) : Prop := ∀ w, Wd n w → acc s1 x w = acc s2 y w
variable {n : Nat} {s1 : α → Nat → α × Bool} {s2 : β → Nat → β × Bool} {s3 : γ → Nat → γ × Bool} {x : α} {y : β} {z : γ} {k : Nat}
theorem Wd.cons {e : Nat} {w : List Nat} (he : e < n) (hw : Wd n w) : Wd n (e :: w) := fun a ha => by
  rcases List.mem_cons.1 ha with rfl | ha
  · exact he
  · exact hw a ha
theorem Wd.head {e : Nat} {w : List Nat} (h : Wd n (e :: w)) : e < n := h e List.mem_cons_self
theorem Wd.tail {e : Nat} {w : List Nat} (h : Wd n (e :: w)) : Wd n w := fun a ha => h a (List.mem_cons_of_mem _ ha)
theorem Ek.zero : Ek n s1 s2 0 x y := fun w hw _ => by
  rw [List.eq_nil_of_length_eq_zero (Nat.le_zero.1 hw)]; rfl
theorem Ek.ok (h : Ek n s1 s2 (k + 1) x y) {e : Nat} (he : e < n) : (s1 x e).2 = (s2 y e).2 := by
  have := h [e] (by simp) (Wd.cons he (fun a ha => by simp at ha))
  simpa [acc] using this
theorem Ek.next (h : Ek n s1 s2 (k + 1) x y) {e : Nat} (he : e < n) (ho : (s1 x e).2 = true) : Ek n s1 s2 k (s1 x e).1 (s2 y e).1 := fun w hw hd => by
  have h2 := h (e :: w) (by simp; omega) (Wd.cons he hd)
  have h3 := h.ok he
  simp only [acc, ho, ← h3, Bool.true_and] at h2
  exact h2
theorem Ek.mk' (h : ∀ e, e < n → (s1 x e).2 = (s2 y e).2 ∧ ((s1 x e).2 = true → Ek n s1 s2 k (s1 x e).1 (s2 y e).1)) : Ek n s1 s2 (k + 1) x y := fun w hw hd => by
  cases w with
  | nil => rfl
  | cons e w =>
    obtain ⟨h1, h2⟩ := h e hd.head
    simp only [acc]
    rw [← h1]
    cases ho : (s1 x e).2 with
    | false => simp
    | true => simp only [Bool.true_and]; exact h2 ho w (by simpa using hw) hd.tail
theorem Ek.less {j : Nat} (h : Ek n s1 s2 k x y) (hj : j ≤ k) : Ek n s1 s2 j x y := fun w hw hd => h w (by omega) hd
theorem Ek.symm (h : Ek n s1 s2 k x y) : Ek n s2 s1 k y x := fun w hw hd => (h w hw hd).symm
theorem Ek.trans (h : Ek n s1 s2 k x y) (h2 : Ek n s2 s3 k y z) : Ek n s1 s3 k x z := fun w hw hd => (h w hw hd).trans (h2 w hw hd)
theorem Lq.ek (h : Lq n s1 s2 x y) (k : Nat) : Ek n s1 s2 k x y := fun w _ hd => h w hd
theorem Lq.of (h : ∀ k, Ek n s1 s2 k x y) : Lq n s1 s2 x y := fun w hd => h w.length w (Nat.le_refl _) hd
theorem Lq.refl (x : α) : Lq n s1 s1 x x := fun _ _ => rfl
theorem Lq.symm (h : Lq n s1 s2 x y) : Lq n s2 s1 y x := fun w hd => (h w hd).symm
theorem Lq.trans (h : Lq n s1 s2 x y) (h2 : Lq n s2 s3 y z) : Lq n s1 s3 x z := fun w hd => (h w hd).trans (h2 w hd)
theorem Lq.ok (h : Lq n s1 s2 x y) {e : Nat} (he : e < n) : (s1 x e).2 = (s2 y e).2 := (h.ek 1).ok he
theorem Lq.next (h : Lq n s1 s2 x y) {e : Nat} (he : e < n) (ho : (s1 x e).2 = true) : Lq n s1 s2 (s1 x e).1 (s2 y e).1 := Lq.of fun k => (h.ek (k + 1)).next he ho
/-- A relation that the steps keep. -/
theorem Lq.of_rel (R : α → β → Prop) (hR : ∀ x y e, R x y → e < n → (s1 x e).2 = (s2 y e).2 ∧ ((s1 x e).2 = true → R (s1 x e).1 (s2 y e).1)) (h : R x y) : Lq n s1 s2 x y := by
  intro w
  induction w generalizing x y with
  | nil => intro _; rfl
  | cons e w ih =>
    intro hd
    obtain ⟨h1, h2⟩ := hR x y e h hd.head
    simp only [acc]
    rw [← h1]
    cases ho : (s1 x e).2 with
    | false => simp
    | true => simp only [Bool.true_and]; exact ih (h2 ho) hd.tail

/-- Classes: refined once a round. -/
structure Refines (n : Nat) (s : α → Nat → α × Bool) (D : α → Prop) (c : Nat → α → Int) : Prop where
  zero : ∀ x y, D x → D y → c 0 x = c 0 y
  succ : ∀ k x y, D x → D y → (c (k + 1) x = c (k + 1) y ↔ c k x = c k y ∧ ∀ e, e < n → (s x e).2 = (s y e).2 ∧ ((s x e).2 = true → c k (s x e).1 = c k (s y e).1))
  dom : ∀ x e, D x → e < n → (s x e).2 = true → D (s x e).1
theorem Refines.ek {s : α → Nat → α × Bool} {D : α → Prop} {c : Nat → α → Int} (H : Refines n s D c) : ∀ (k : Nat) (x y : α), D x → D y → (c k x = c k y ↔ Ek n s s k x y)
  | 0, x, y, hx, hy => ⟨fun _ => Ek.zero, fun _ => H.zero x y hx hy⟩
  | k + 1, x, y, hx, hy => by
    rw [H.succ k x y hx hy, H.ek k x y hx hy]
    constructor
    · rintro ⟨_, h⟩
      refine Ek.mk' fun e he => ⟨(h e he).1, fun ho => ?_⟩
      exact (H.ek k _ _ (H.dom x e hx he ho) (H.dom y e hy he ((h e he).1 ▸ ho))).1 ((h e he).2 ho)
    · intro h
      refine ⟨h.less (by omega), fun e he => ⟨h.ok he, fun ho => ?_⟩⟩
      exact (H.ek k _ _ (H.dom x e hx he ho) (H.dom y e hy he (h.ok he ▸ ho))).2 (h.next he ho)
/-- Once a round leaves the classes as they were, they are those of the words. -/
theorem stable_lq {s : α → Nat → α × Bool} {D : α → Prop} (hdom : ∀ x e, D x → e < n → (s x e).2 = true → D (s x e).1) {k : Nat} (hst : ∀ x y, D x → D y → Ek n s s k x y → Ek n s s (k + 1) x y) (x y : α) (hx : D x) (hy : D y) (h : Ek n s s k x y) : Lq n s s x y := by
  have key : ∀ m x y, D x → D y → Ek n s s k x y → Ek n s s (k + m) x y := by
    intro m
    induction m with
    | zero => intro x y _ _ h; exact h
    | succ m ih =>
      intro x y hx hy h
      have h1 := hst x y hx hy h
      refine Ek.mk' fun e he => ⟨h1.ok he, fun ho => ?_⟩
      exact ih _ _ (hdom x e hx he ho) (hdom y e hy he (h1.ok he ▸ ho)) (h1.next he ho)
  exact Lq.of fun j => (key j x y hx hy h).less (by omega)
end

/-! ### counting classes -/
/-- The places where a value stands for the first time. -/
def firsts (A : Nat → Int) (N : Nat) : List Nat := (List.range N).filter fun i => (List.range i).all fun j => decide (A j ≠ A i)
theorem mem_firsts {A : Nat → Int} {N i : Nat} : i ∈ firsts A N ↔ i < N ∧ ∀ j, j < i → A j ≠ A i := by
  simp [firsts]
theorem first_of (A : Nat → Int) (N : Nat) (p : Nat) (hp : p < N) : ∃ i, i ∈ firsts A N ∧ A i = A p := by
  induction p using Nat.strongRecOn with
  | _ p ih =>
    by_cases h : ∃ j, j < p ∧ A j = A p
    · obtain ⟨j, hj, he⟩ := h
      obtain ⟨i, hi, h2⟩ := ih j hj (by omega)
      exact ⟨i, hi, h2.trans he⟩
    · exact ⟨p, mem_firsts.2 ⟨hp, fun j hj he => h ⟨j, hj, he⟩⟩, rfl⟩
theorem filter_sub {α : Type} {p q : α → Bool} : ∀ {l : List α}, (∀ x ∈ l, p x = true → q x = true) → (l.filter p).Sublist (l.filter q)
  | [], _ => List.Sublist.refl _
  | x :: l, h => by
    have ih := filter_sub (l := l) (fun y hy => h y (List.mem_cons_of_mem _ hy))
    cases hp : p x with
    | true => rw [List.filter_cons_of_pos hp, List.filter_cons_of_pos (h x List.mem_cons_self hp)]; exact ih.cons_cons x
    | false =>
      rw [List.filter_cons_of_neg (by simp [hp])]
      cases hq : q x with
      | true => rw [List.filter_cons_of_pos hq]; exact ih.cons x
      | false => rw [List.filter_cons_of_neg (by simp [hq])]; exact ih
theorem firsts_sub {A B : Nat → Int} {N : Nat} (h : ∀ p q, p < N → q < N → B p = B q → A p = A q) : (firsts A N).Sublist (firsts B N) := by
  unfold firsts
  refine filter_sub ?_
  intro i hi
  have hi' := List.mem_range.1 hi
  simp only [List.all_eq_true, List.mem_range, decide_eq_true_eq]
  exact fun hh j hj he => hh j hj (h j i (by omega) hi' he)
theorem firsts_eq {A B : Nat → Int} {N : Nat} (h : ∀ p q, p < N → q < N → B p = B q → A p = A q) (hc : (firsts A N).length = (firsts B N).length) : ∀ p q, p < N → q < N → A p = A q → B p = B q := by
  have he := (firsts_sub h).eq_of_length hc
  intro p q hp hq hA
  obtain ⟨i, hi, h1⟩ := first_of B N p hp
  obtain ⟨j, hj, h2⟩ := first_of B N q hq
  have hi' := mem_firsts.1 (he ▸ hi)
  have hj' := mem_firsts.1 (he ▸ hj)
  have hij : A i = A j := (h i p hi'.1 hp h1).trans (hA.trans (h q j hq hj'.1 h2.symm))
  have : i = j := by
    rcases Nat.lt_trichotomy i j with hlt | heq | hlt
    · exact absurd hij (hj'.2 i hlt)
    · exact heq
    · exact absurd hij.symm (hi'.2 j hlt)
  subst this
  exact h1.symm.trans h2

/-! ### one table for one language -/
section
variable {α β : Type}
/-- Two queues, place by place. -/
def Side (R : α → β → Prop) (q1 : List α) (q2 : List β) : Prop := q1.length = q2.length ∧ ∀ (i : Nat) (x : α) (y : β), q1[i]? = some x → q2[i]? = some y → R x y
theorem Side.snoc {R : α → β → Prop} {q1 : List α} {q2 : List β} {x : α} {y : β} (h : Side R q1 q2) (hx : R x y) : Side R (q1 ++ [x]) (q2 ++ [y]) := by
  refine ⟨by simp [h.1], fun i u v hu hv => ?_⟩
  rcases Nat.lt_trichotomy i q1.length with hi | hi | hi
  · rw [List.getElem?_append_left hi] at hu
    rw [List.getElem?_append_left (h.1 ▸ hi)] at hv
    exact h.2 i u v hu hv
  · have h2 := h.1
    rw [List.getElem?_append_right (by omega), hi, Nat.sub_self] at hu
    rw [List.getElem?_append_right (by omega), show i - q2.length = 0 from by omega] at hv
    obtain rfl : x = u := by simpa using hu
    obtain rfl : y = v := by simpa using hv
    exact hx
  · rw [List.getElem?_eq_none (by simp; omega)] at hu; cases hu
end
section
variable {α β : Type} [DecidableEq α] [DecidableEq β] {n : Nat} {s1 : α → Nat → α × Bool} {s2 : β → Nat → β × Bool} {a : α} {b : β}
theorem side_place {R : α → β → Prop} (hinj : ∀ x y x' y', R x y → R x' y' → (x = x' ↔ y = y')) : ∀ {q1 : List α} {q2 : List β} {x : α} {y : β}, Side R q1 q2 → R x y → place x q1 = place y q2
  | [], [], _, _, _, _ => by simp [place]
  | [], _ :: _, _, _, h, _ => by have := h.1; simp at this
  | _ :: _, [], _, _, h, _ => by have := h.1; simp at this
  | u :: q1, v :: q2, x, y, h, hx => by
    have huv := h.2 0 u v rfl rfl
    have ht : Side R q1 q2 := ⟨by have := h.1; simpa using this, fun i x y hu hv => h.2 (i + 1) x y (by simpa using hu) (by simpa using hv)⟩
    have ih := side_place hinj ht hx
    have hiff := hinj u v x y huv hx
    simp only [place, List.idxOf_cons] at ih ⊢
    by_cases hc : u = x
    · rw [beq_iff_eq.2 hc, beq_iff_eq.2 (hiff.1 hc)]; rfl
    · rw [beq_eq_false_iff_ne.2 hc, beq_eq_false_iff_ne.2 (fun h => hc (hiff.2 h))]
      simp only [cond_false]
      omega
theorem place_mem {x : α} {q : List α} : x ∈ q ↔ place x q < q.length := List.idxOf_lt_length_iff.symm
theorem side_ins {R : α → β → Prop} (hinj : ∀ x y x' y', R x y → R x' y' → (x = x' ↔ y = y')) {q1 : List α} {q2 : List β} {x : α} {y : β} (h : Side R q1 q2) (hx : R x y) : Side R (ins q1 x) (ins q2 y) := by
  have hp := side_place hinj h hx
  have hiff : x ∈ q1 ↔ y ∈ q2 := by rw [place_mem, place_mem, hp, h.1]
  unfold ins
  by_cases hm : x ∈ q1
  · rw [if_pos hm, if_pos (hiff.1 hm)]; exact h
  · rw [if_neg hm, if_neg (fun h => hm (hiff.2 h))]; exact h.snoc hx
theorem side_row {R : α → β → Prop} (hinj : ∀ x y x' y', R x y → R x' y' → (x = x' ↔ y = y')) (hstep : ∀ x y e, R x y → e < n → (s1 x e).2 = (s2 y e).2 ∧ ((s1 x e).2 = true → R (s1 x e).1 (s2 y e).1)) {q1 : List α} {q2 : List β} {x : α} {y : β} (h : Side R q1 q2) (hx : R x y) :
    ∀ e, e ≤ n → (rowTo s1 x q1 e).1 = (rowTo s2 y q2 e).1 ∧ Side R (rowTo s1 x q1 e).2 (rowTo s2 y q2 e).2
  | 0, _ => ⟨rfl, h⟩
  | e + 1, he => by
    obtain ⟨h1, h2⟩ := side_row hinj hstep h hx e (by omega)
    obtain ⟨h3, h4⟩ := hstep x y e hx (by omega)
    simp only [rowTo]
    rw [← h3]
    cases ho : (s1 x e).2 with
    | false =>
      simp only [Bool.false_eq_true, if_false]
      exact ⟨by rw [h1], h2⟩
    | true =>
      simp only [if_true]
      have h5 := side_place hinj h2 (h4 ho)
      exact ⟨by rw [h1]; congr 2; exact congrArg (fun k : Nat => (k : Int)) h5, side_ins hinj h2 (h4 ho)⟩
theorem bfs_unique (R : α → β → Prop) (hinj : ∀ x y x' y', R x y → R x' y' → (x = x' ↔ y = y')) (hstep : ∀ x y e, R x y → e < n → (s1 x e).2 = (s2 y e).2 ∧ ((s1 x e).2 = true → R (s1 x e).1 (s2 y e).1)) (h0 : R a b) :
    ∀ m, (bfsTo n s1 a m).1 = (bfsTo n s2 b m).1 ∧ Side R (bfsTo n s1 a m).2 (bfsTo n s2 b m).2
  | 0 => ⟨rfl, by
    refine ⟨rfl, fun i x y hx hy => ?_⟩
    simp only [bfsTo] at hx hy
    cases i with
    | zero =>
      obtain rfl : a = x := by simpa using hx
      obtain rfl : b = y := by simpa using hy
      exact h0
    | succ i => simp at hx⟩
  | m + 1 => by
    obtain ⟨h1, h2⟩ := bfs_unique R hinj hstep h0 m
    by_cases h : m < (bfsTo n s1 a m).2.length
    · have h' : m < (bfsTo n s2 b m).2.length := h2.1 ▸ h
      rw [bfsTo_step h, bfsTo_step h']
      obtain ⟨h3, h4⟩ := side_row hinj hstep h2 (h2.2 m _ _ (List.getElem?_eq_getElem h) (List.getElem?_eq_getElem h')) n (Nat.le_refl _)
      exact ⟨by rw [h1, h3], h4⟩
    · rw [bfsTo_stop h, bfsTo_stop (fun h' => h (h2.1 ▸ h'))]
      exact ⟨h1, h2⟩
/-- Two reduced tables of one language are one. -/
theorem bfs_lang {D1 : α → Prop} {D2 : β → Prop} (hd1 : ∀ x e, D1 x → e < n → (s1 x e).2 = true → D1 (s1 x e).1) (hd2 : ∀ x e, D2 x → e < n → (s2 x e).2 = true → D2 (s2 x e).1)
    (hr1 : ∀ x y, D1 x → D1 y → Lq n s1 s1 x y → x = y) (hr2 : ∀ x y, D2 x → D2 y → Lq n s2 s2 x y → x = y) (ha : D1 a) (hb : D2 b) (h : Lq n s1 s2 a b) (m : Nat) : (bfsTo n s1 a m).1 = (bfsTo n s2 b m).1 := by
  refine (bfs_unique (fun x y => D1 x ∧ D2 y ∧ Lq n s1 s2 x y) ?_ ?_ ⟨ha, hb, h⟩ m).1
  · rintro x y x' y' ⟨hx, hy, hl⟩ ⟨hx', hy', hl'⟩
    constructor
    · rintro rfl
      exact hr2 _ _ hy hy' (hl.symm.trans hl')
    · rintro rfl
      exact hr1 _ _ hx hx' (hl.trans hl'.symm)
  · rintro x y e ⟨hx, hy, hl⟩ he
    refine ⟨hl.ok he, fun ho => ⟨hd1 x e hx he ho, hd2 y e hy he (hl.ok he ▸ ho), hl.next he ho⟩⟩
end
end Go.Proofs.YtmphigeefppfpaaW.PrintWords
