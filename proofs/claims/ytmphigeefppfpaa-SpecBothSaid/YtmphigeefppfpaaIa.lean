/- What the reference's classes are: the states with the same words. Plain Lean. -/
import Derived.Test.YtmphigeefppfpaaHw
import Derived.Test.YtmphigeefppfpaaHz
namespace Go.Proofs.Ytmphigeefppfpaa.H
open Go.RowKit Go.Proofs.YtmphigeefppfpaaW.PrintWords Go.Proofs.YtmphigeefppfpaaW.PrintLast Go.Proofs.YtmphigeefppfpaaW.PrintMore
set_option linter.unusedVariables false

theorem firsts_pos (A : Nat → Int) {N : Nat} (h : 1 ≤ N) : 1 ≤ (firsts A N).length := by
  obtain ⟨i, hi, _⟩ := first_of A N 0 (by omega)
  exact List.length_pos_of_mem hi
/-- As many rounds as states are enough. -/
theorem refines_lq {n : Nat} {s : Int → Nat → Int × Bool} {N : Nat} {c : Nat → Int → Int} (H : Refines n s (fun x => 0 ≤ x ∧ x < (N : Int)) c) (hN : 1 ≤ N) (x y : Int) (hx : 0 ≤ x ∧ x < (N : Int)) (hy : 0 ≤ y ∧ y < (N : Int)) : c N x = c N y ↔ Lq n s s x y := by
  have hsub : ∀ k, ∀ p q : Nat, p < N → q < N → c (k + 1) p = c (k + 1) q → c k p = c k q := fun k p q hp hq h => ((H.succ k p q ⟨by omega, by omega⟩ ⟨by omega, by omega⟩).1 h).1
  have hstop : ∃ k, k < N ∧ (firsts (fun i => c k i) N).length = (firsts (fun i => c (k + 1) i) N).length := by
    refine Classical.byContradiction fun hno => ?_
    have hgrow : ∀ k, k ≤ N → k + 1 ≤ (firsts (fun i => c k i) N).length := by
      intro k
      induction k with
      | zero => intro _; exact firsts_pos _ hN
      | succ k ih =>
        intro hk
        have h0 := ih (by omega)
        have h1 := (firsts_sub (A := fun i => c k i) (B := fun i => c (k + 1) i) (hsub k)).length_le
        have h2 : (firsts (fun i => c k i) N).length ≠ (firsts (fun i => c (k + 1) i) N).length := fun h => hno ⟨k, by omega, h⟩
        omega
    have h1 := hgrow N (Nat.le_refl _)
    have h2 := firsts_le (fun i => c N i) N
    omega
  obtain ⟨k, hk, hst0⟩ := hstop
  have hst := firsts_eq (hsub k) hst0
  constructor
  · intro h
    refine stable_lq (k := k) H.dom (fun x y hx hy h => ?_) x y hx hy (((H.ek N x y hx hy).1 h).less (by omega))
    have h2 := hst x.toNat y.toNat (by have := hx.1; have := hx.2; omega) (by have := hy.1; have := hy.2; omega)
    simp only [Int.toNat_of_nonneg hx.1, Int.toNat_of_nonneg hy.1] at h2
    exact (H.ek (k + 1) x y hx hy).1 (h2 ((H.ek k x y hx hy).2 h))
  · intro h
    exact (H.ek N x y hx hy).2 (h.ek _)

/-! ### the reference's classes -/
theorem lowTo_spec (rel : Nat → Bool) (q : Nat) : ∀ d, d ≤ q → (∀ p, q - d ≤ p → p < q → lowTo rel q d ≤ p ∨ rel p = false) ∧ (lowTo rel q d = q ∨ (rel (lowTo rel q d) = true ∧ q - d ≤ lowTo rel q d ∧ lowTo rel q d < q))
  | 0, _ => ⟨fun p h1 h2 => absurd h2 (by omega), .inl rfl⟩
  | d + 1, hd => by
    obtain ⟨h1, h2⟩ := lowTo_spec rel q d (by omega)
    simp only [lowTo]
    by_cases hr : rel (q - 1 - d) = true
    · rw [if_pos hr]
      exact ⟨fun p hp _ => .inl (by omega), .inr ⟨hr, by omega, by omega⟩⟩
    · rw [if_neg hr]
      refine ⟨fun p hp hq => ?_, ?_⟩
      · rcases Nat.lt_or_ge p (q - d) with h | h
        · obtain rfl : p = q - 1 - d := by omega
          exact .inr (by simpa using hr)
        · exact h1 p h hq
      · rcases h2 with h2 | ⟨a, b, c⟩
        · exact .inl h2
        · exact .inr ⟨a, by omega, c⟩
theorem refNext_at (n : Nat) (l : List (List Int)) (c : List Int) : ∀ j q : Nat, q < j → rd (refNext n l c j) (q : Int) = (lowTo (relB n l c q) q q : Int)
  | 0, q, h => absurd h (Nat.not_lt_zero _)
  | j + 1, q, h => by
    have hl := refNext_len n l c j
    simp only [refNext]
    rcases Nat.lt_or_ge q j with hq | hq
    · rw [← refNext_at n l c j q hq, rd_at (by rw [List.length_append]; omega), rd_at (by omega), List.getElem_append_left (by omega)]
    · obtain rfl : q = j := by omega
      rw [rd_at (by rw [List.length_append, List.length_singleton]; omega), List.getElem_append_right (by omega)]
      simp
/-- Two states are alike in c. -/
def relP (n : Nat) (l : List (List Int)) (c : List Int) (p q : Nat) : Prop := rd c (p : Int) = rd c (q : Int) ∧ ∀ e, e < n → (stepS l (p : Int) e).2 = (stepS l (q : Int) e).2 ∧ ((stepS l (p : Int) e).2 = true → rd c (stepS l (p : Int) e).1 = rd c (stepS l (q : Int) e).1)
open Classical in
theorem relB_iff {n : Nat} {l : List (List Int)} {c : List Int} {p q : Nat} : relB n l c q p = true ↔ relP n l c p q := by
  unfold relB alikeB relP
  rw [Bool.and_eq_true]
  exact ⟨fun h => ⟨of_decide_eq_true h.1, fun e he => (of_decide_eq_true h.2 : alikeFrom n l c p q 0) e (Nat.zero_le _) he⟩, fun h => ⟨decide_eq_true h.1, decide_eq_true (show alikeFrom n l c p q 0 from fun e _ he => h.2 e he)⟩⟩
section
variable {n : Nat} {l : List (List Int)} {c : List Int} {p q r : Nat}
theorem relP.refl : relP n l c p p := ⟨rfl, fun e _ => ⟨rfl, fun _ => rfl⟩⟩
theorem relP.symm (h : relP n l c p q) : relP n l c q p := ⟨h.1.symm, fun e he => ⟨(h.2 e he).1.symm, fun ho => ((h.2 e he).2 ((h.2 e he).1.trans ho)).symm⟩⟩
theorem relP.trans (h : relP n l c p q) (h2 : relP n l c q r) : relP n l c p r := ⟨h.1.trans h2.1, fun e he => ⟨(h.2 e he).1.trans (h2.2 e he).1, fun ho => ((h.2 e he).2 ho).trans ((h2.2 e he).2 ((h.2 e he).1.symm.trans ho))⟩⟩
/-- The new class: the least that is alike. -/
theorem low_rel : relP n l c (lowTo (relB n l c q) q q) q := by
  obtain ⟨_, h⟩ := lowTo_spec (relB n l c q) q q (Nat.le_refl _)
  rcases h with h | ⟨h, _⟩
  · rw [h]; exact .refl
  · exact relB_iff.1 h
theorem low_least (h : relP n l c p q) : lowTo (relB n l c q) q q ≤ p := by
  obtain ⟨h1, _⟩ := lowTo_spec (relB n l c q) q q (Nat.le_refl _)
  rcases Nat.lt_or_ge p q with hpq | hpq
  · rcases h1 p (by omega) hpq with h2 | h2
    · exact h2
    · rw [relB_iff.2 h] at h2; cases h2
  · exact Nat.le_trans (lowTo_le _ _ _) hpq
theorem low_iff : lowTo (relB n l c p) p p = lowTo (relB n l c q) q q ↔ relP n l c p q := by
  constructor
  · intro h
    have h1 : relP n l c (lowTo (relB n l c p) p p) p := low_rel
    have h2 : relP n l c (lowTo (relB n l c q) q q) q := low_rel
    rw [h] at h1
    exact h1.symm.trans h2
  · intro h
    exact Nat.le_antisymm (low_least (low_rel.trans h.symm)) (low_least (low_rel.trans h))
end
theorem ref_next_iff {n : Nat} {l : List (List Int)} {c : List Int} {N p q : Nat} (hp : p < N) (hq : q < N) : rd (refNext n l c N) (p : Int) = rd (refNext n l c N) (q : Int) ↔ relP n l c p q := by
  rw [refNext_at n l c N p hp, refNext_at n l c N q hq, ← low_iff]
  omega
theorem ref_refines {n : Nat} {l : List (List Int)} (hl : tableOk n l) : Refines n (stepS l) (fun x => 0 ≤ x ∧ x < (l.length : Int)) (fun k x => rd (refCls n l k) x) where
  zero := fun x y hx hy => by
    have key : ∀ x : Int, 0 ≤ x ∧ x < (l.length : Int) → rd (refCls n l 0) x = 0 := fun x hx => by
      have : x.toNat < l.length := by omega
      simp [refCls, rd, List.getD_eq_getElem?_getD, this]
    rw [key x hx, key y hy]
  succ := fun k x y hx hy => by
    obtain ⟨p, rfl⟩ : ∃ j : Nat, x = (j : Int) := ⟨x.toNat, by have := hx.1; omega⟩
    obtain ⟨q, rfl⟩ : ∃ j : Nat, y = (j : Int) := ⟨y.toNat, by have := hy.1; omega⟩
    exact ref_next_iff (by omega) (by omega)
  dom := graph_dom hl
/-- A class is its own least state. -/
theorem ref_idem {n : Nat} {l : List (List Int)} {c : List Int} {N p : Nat} (hp : p < N) : rd (refNext n l c N) (rd (refNext n l c N) (p : Int)) = rd (refNext n l c N) (p : Int) := by
  rw [refNext_at n l c N p hp]
  have hlt : lowTo (relB n l c p) p p < N := Nat.lt_of_le_of_lt (lowTo_le _ _ _) hp
  rw [refNext_at n l c N _ hlt, low_iff.2 low_rel]
theorem rleast_is {n : Nat} {l : List (List Int)} {st : Int} (hl : tableOk n l) (hN : 1 ≤ l.length) (hst : domS l st) : IsLeast n l st (rleastOf n l st) ∧ (rleastOf n l st).length ≤ l.length := by
  have hKL := refCls_len n l l.length
  have hKR := refCls_range n l hN l.length
  have hcl := fun x y hx hy => refines_lq (ref_refines hl) hN x y hx hy
  have hid : ∀ x, domS l x → rd (refCls n l l.length) (rd (refCls n l l.length) x) = rd (refCls n l l.length) x := fun x hx => by
    obtain ⟨j, rfl⟩ : ∃ j : Nat, x = (j : Int) := ⟨x.toNat, by have := hx.1; omega⟩
    obtain ⟨k, hk⟩ : ∃ k, l.length = k + 1 := ⟨l.length - 1, by omega⟩
    rw [hk]
    exact ref_idem (by have := hx.2; omega)
  unfold rleastOf
  generalize refCls n l l.length = K at *
  have hkd : ∀ x, domS l x → domS l (rd K x) := fun x hx => hKR _ (rd_mem' hx.1 (by have := hx.2; omega))
  have hD : ∀ x e, (domS l x ∧ rd K x = x) → e < n → (stepR l K x e).2 = true → (domS l (stepR l K x e).1 ∧ rd K (stepR l K x e).1 = (stepR l K x e).1) := by
    intro x e hx he h
    refine ⟨stepR_dom hl hKL hKR x e hx.1 he h, ?_⟩
    unfold stepR at h ⊢
    by_cases ho : (stepS l x e).2 = true
    · rw [if_pos ho]
      exact hid _ (graph_dom hl x e hx.1 he ho)
    · rw [if_neg ho] at h; simp at h
  have hfin := bfs_size (n := n) (step := stepR l K) (start := rd K st) (fun x e hx he h => stepR_dom hl hKL hKR x e hx he h) (hkd st hst) l.length
  have hlq : ∀ x i, domS l x → domS l i → rd K i = x → rd K x = x → Lq n (stepR l K) (stepS l) x i := by
    intro x i hx hi hxi hxx
    refine Lq.of_rel (fun x i => domS l x ∧ domS l i ∧ rd K i = x ∧ rd K x = x) ?_ ⟨hx, hi, hxi, hxx⟩
    rintro x i e ⟨hx, hi, hxi, hxx⟩ he
    have hpi := (hcl x i hx hi).1 (by rw [hxx, hxi])
    have hok2 := hpi.ok he
    unfold stepR
    cases ho : (stepS l x e).2 with
    | false =>
      rw [ho] at hok2
      simp [← hok2]
    | true =>
      have hnx := hpi.next he ho
      rw [ho] at hok2
      have hd1 := graph_dom hl _ e hx he ho
      have hd2 := graph_dom hl _ e hi he hok2.symm
      simp only [if_true]
      exact ⟨hok2, fun _ => ⟨hkd _ hd1, hd2, ((hcl _ _ hd1 hd2).2 hnx).symm, hid _ hd1⟩⟩
  refine ⟨⟨stepR l K, rd K st, fun x => domS l x ∧ rd K x = x, l.length, rfl, hfin, hD, ⟨hkd st hst, hid st hst⟩, fun x y hx hy h => ?_, hlq _ _ (hkd st hst) hst rfl (hid st hst)⟩, ?_⟩
  · have h1 := ((hlq x x hx.1 hx.1 hx.2 hx.2).symm.trans h).trans (hlq y y hy.1 hy.1 hy.2 hy.2)
    rw [← hx.2, ← hy.2]
    exact (hcl _ _ hx.1 hy.1).2 h1
  · have := (bfs_done hfin).1
    omega
end Go.Proofs.Ytmphigeefppfpaa.H
