/- What specOwn_calls needs, out of my texts, by a program (slim.py). -/
import Derived.Test.YtmphigeefppfpaaS50
namespace Go.Proofs.Ytmphigeefppfpaa.H
open Go.RowKit Go.Proofs.YtmphigeefppfpaaW.PrintWords Go.Proofs.YtmphigeefppfpaaW.PrintLast Go.Proofs.YtmphigeefppfpaaW.PrintMore
set_option linter.unusedVariables false
theorem firsts_pos (A : Nat → Int) {N : Nat} (h : 1 ≤ N) : 1 ≤ (firsts A N).length := by
  obtain ⟨i, hi, _⟩ := first_of A N 0 (by omega)
  exact List.length_pos_of_mem hi
theorem refines_lq {n : Nat} {s : Int → Nat → Int × Bool} {N : Nat} {c : Nat → Int → Int} (H : Refines n s (fun x => 0 ≤ x ∧ x < (N : Int)) c) (hN : 1 ≤ N) (x y : Int) (hx : 0 ≤ x ∧ x < (N : Int)) (hy : 0 ≤ y ∧ y < (N : Int)) : c N x = c N y ↔ Lq n s s x y := by
  have hsub : ∀ k, ∀ p q : Nat, p < N → q < N → c (k + 1) p = c (k + 1) q → c k p = c k q := fun k p q hp hq h => ((H.succ k p q ⟨by omega, by omega⟩ ⟨by omega, by omega⟩).1 h).1
  have hstop : ∃ k, k < N ∧ (firsts (fun i => c k i) N).length = (firsts (fun i => c (k + 1) i) N).length := by
    refine Classical.byContradiction fun hno => ?_
    have hgrow : ∀ k, k ≤ N → k + 1 ≤ (firsts (fun i => c k i) N).length := by
      intro k
      induction k with
      | zero => intro _; exact firsts_pos _ hN
      | succ k ih =>
        intro hk
        have h0 := ih (by omega)
        have h1 := (firsts_sub (A := fun i => c k i) (B := fun i => c (k + 1) i) (hsub k)).length_le
        have h2 : (firsts (fun i => c k i) N).length ≠ (firsts (fun i => c (k + 1) i) N).length := fun h => hno ⟨k, by omega, h⟩
        omega
    have h1 := hgrow N (Nat.le_refl _)
    have h2 := firsts_le (fun i => c N i) N
    omega
  obtain ⟨k, hk, hst0⟩ := hstop
  have hst := firsts_eq (hsub k) hst0
  constructor
  · intro h
    refine stable_lq (k := k) H.dom (fun x y hx hy h => ?_) x y hx hy (((H.ek N x y hx hy).1 h).less (by omega))
    have h2 := hst x.toNat y.toNat (by have := hx.1; have := hx.2; omega) (by have := hy.1; have := hy.2; omega)
    simp only [Int.toNat_of_nonneg hx.1, Int.toNat_of_nonneg hy.1] at h2
    exact (H.ek (k + 1) x y hx hy).1 (h2 ((H.ek k x y hx hy).2 h))
  · intro h
    exact (H.ek N x y hx hy).2 (h.ek _)
theorem lowTo_spec (rel : Nat → Bool) (q : Nat) : ∀ d, d ≤ q → (∀ p, q - d ≤ p → p < q → lowTo rel q d ≤ p ∨ rel p = false) ∧ (lowTo rel q d = q ∨ (rel (lowTo rel q d) = true ∧ q - d ≤ lowTo rel q d ∧ lowTo rel q d < q))
  | 0, _ => ⟨fun p h1 h2 => absurd h2 (by omega), .inl rfl⟩
  | d + 1, hd => by
    obtain ⟨h1, h2⟩ := lowTo_spec rel q d (by omega)
    simp only [lowTo]
    by_cases hr : rel (q - 1 - d) = true
    · rw [if_pos hr]
      exact ⟨fun p hp _ => .inl (by omega), .inr ⟨hr, by omega, by omega⟩⟩
    · rw [if_neg hr]
      refine ⟨fun p hp hq => ?_, ?_⟩
      · rcases Nat.lt_or_ge p (q - d) with h | h
        · obtain rfl : p = q - 1 - d := by omega
          exact .inr (by simpa using hr)
        · exact h1 p h hq
      · rcases h2 with h2 | ⟨a, b, c⟩
        · exact .inl h2
        · exact .inr ⟨a, by omega, c⟩
theorem refNext_at (n : Nat) (l : List (List Int)) (c : List Int) : ∀ j q : Nat, q < j → rd (refNext n l c j) (q : Int) = (lowTo (relB n l c q) q q : Int)
  | 0, q, h => absurd h (Nat.not_lt_zero _)
  | j + 1, q, h => by
    have hl := refNext_len n l c j
    simp only [refNext]
    rcases Nat.lt_or_ge q j with hq | hq
    · rw [← refNext_at n l c j q hq, rd_at (by rw [List.length_append]; omega), rd_at (by omega), List.getElem_append_left (by omega)]
    · obtain rfl : q = j := by omega
      rw [rd_at (by rw [List.length_append, List.length_singleton]; omega), List.getElem_append_right (by omega)]
      simp
def relP (n : Nat) (l : List (List Int)) (c : List Int) (p q : Nat) : Prop := rd c (p : Int) = rd c (q : Int) ∧ ∀ e, e < n → (stepS l (p : Int) e).2 = (stepS l (q : Int) e).2 ∧ ((stepS l (p : Int) e).2 = true → rd c (stepS l (p : Int) e).1 = rd c (stepS l (q : Int) e).1)
open Classical in
theorem relB_iff {n : Nat} {l : List (List Int)} {c : List Int} {p q : Nat} : relB n l c q p = true ↔ relP n l c p q := by
  unfold relB alikeB relP
  rw [Bool.and_eq_true]
  exact ⟨fun h => ⟨of_decide_eq_true h.1, fun e he => (of_decide_eq_true h.2 : alikeFrom n l c p q 0) e (Nat.zero_le _) he⟩, fun h => ⟨decide_eq_true h.1, decide_eq_true (show alikeFrom n l c p q 0 from fun e _ he => h.2 e he)⟩⟩
section
variable {n : Nat} {l : List (List Int)} {c : List Int} {p q r : Nat}
theorem relP.refl : relP n l c p p := ⟨rfl, fun e _ => ⟨rfl, fun _ => rfl⟩⟩
theorem relP.symm (h : relP n l c p q) : relP n l c q p := ⟨h.1.symm, fun e he => ⟨(h.2 e he).1.symm, fun ho => ((h.2 e he).2 ((h.2 e he).1.trans ho)).symm⟩⟩
theorem relP.trans (h : relP n l c p q) (h2 : relP n l c q r) : relP n l c p r := ⟨h.1.trans h2.1, fun e he => ⟨(h.2 e he).1.trans (h2.2 e he).1, fun ho => ((h.2 e he).2 ho).trans ((h2.2 e he).2 ((h.2 e he).1.symm.trans ho))⟩⟩
theorem low_rel : relP n l c (lowTo (relB n l c q) q q) q := by
  obtain ⟨_, h⟩ := lowTo_spec (relB n l c q) q q (Nat.le_refl _)
  rcases h with h | ⟨h, _⟩
  · rw [h]; exact .refl
  · exact relB_iff.1 h
theorem low_least (h : relP n l c p q) : lowTo (relB n l c q) q q ≤ p := by
  obtain ⟨h1, _⟩ := lowTo_spec (relB n l c q) q q (Nat.le_refl _)
  rcases Nat.lt_or_ge p q with hpq | hpq
  · rcases h1 p (by omega) hpq with h2 | h2
    · exact h2
    · rw [relB_iff.2 h] at h2; cases h2
  · exact Nat.le_trans (lowTo_le _ _ _) hpq
theorem low_iff : lowTo (relB n l c p) p p = lowTo (relB n l c q) q q ↔ relP n l c p q := by
  constructor
  · intro h
    have h1 : relP n l c (lowTo (relB n l c p) p p) p := low_rel
    have h2 : relP n l c (lowTo (relB n l c q) q q) q := low_rel
    rw [h] at h1
    exact h1.symm.trans h2
  · intro h
    exact Nat.le_antisymm (low_least (low_rel.trans h.symm)) (low_least (low_rel.trans h))
end
theorem ref_next_iff {n : Nat} {l : List (List Int)} {c : List Int} {N p q : Nat} (hp : p < N) (hq : q < N) : rd (refNext n l c N) (p : Int) = rd (refNext n l c N) (q : Int) ↔ relP n l c p q := by
  rw [refNext_at n l c N p hp, refNext_at n l c N q hq, ← low_iff]
  omega
theorem ref_refines {n : Nat} {l : List (List Int)} (hl : tableOk n l) : Refines n (stepS l) (fun x => 0 ≤ x ∧ x < (l.length : Int)) (fun k x => rd (refCls n l k) x) where
  zero := fun x y hx hy => by
    have key : ∀ x : Int, 0 ≤ x ∧ x < (l.length : Int) → rd (refCls n l 0) x = 0 := fun x hx => by
      have : x.toNat < l.length := by omega
      simp [refCls, rd, List.getD_eq_getElem?_getD, this]
    rw [key x hx, key y hy]
  succ := fun k x y hx hy => by
    obtain ⟨p, rfl⟩ : ∃ j : Nat, x = (j : Int) := ⟨x.toNat, by have := hx.1; omega⟩
    obtain ⟨q, rfl⟩ : ∃ j : Nat, y = (j : Int) := ⟨y.toNat, by have := hy.1; omega⟩
    exact ref_next_iff (by omega) (by omega)
  dom := graph_dom hl
theorem ref_idem {n : Nat} {l : List (List Int)} {c : List Int} {N p : Nat} (hp : p < N) : rd (refNext n l c N) (rd (refNext n l c N) (p : Int)) = rd (refNext n l c N) (p : Int) := by
  rw [refNext_at n l c N p hp]
  have hlt : lowTo (relB n l c p) p p < N := Nat.lt_of_le_of_lt (lowTo_le _ _ _) hp
  rw [refNext_at n l c N _ hlt, low_iff.2 low_rel]
theorem rleast_is {n : Nat} {l : List (List Int)} {st : Int} (hl : tableOk n l) (hN : 1 ≤ l.length) (hst : domS l st) : IsLeast n l st (rleastOf n l st) ∧ (rleastOf n l st).length ≤ l.length := by
  have hKL := refCls_len n l l.length
  have hKR := refCls_range n l hN l.length
  have hcl := fun x y hx hy => refines_lq (ref_refines hl) hN x y hx hy
  have hid : ∀ x, domS l x → rd (refCls n l l.length) (rd (refCls n l l.length) x) = rd (refCls n l l.length) x := fun x hx => by
    obtain ⟨j, rfl⟩ : ∃ j : Nat, x = (j : Int) := ⟨x.toNat, by have := hx.1; omega⟩
    obtain ⟨k, hk⟩ : ∃ k, l.length = k + 1 := ⟨l.length - 1, by omega⟩
    rw [hk]
    exact ref_idem (by have := hx.2; omega)
  unfold rleastOf
  generalize refCls n l l.length = K at *
  have hkd : ∀ x, domS l x → domS l (rd K x) := fun x hx => hKR _ (rd_mem' hx.1 (by have := hx.2; omega))
  have hD : ∀ x e, (domS l x ∧ rd K x = x) → e < n → (stepR l K x e).2 = true → (domS l (stepR l K x e).1 ∧ rd K (stepR l K x e).1 = (stepR l K x e).1) := by
    intro x e hx he h
    refine ⟨stepR_dom hl hKL hKR x e hx.1 he h, ?_⟩
    unfold stepR at h ⊢
    by_cases ho : (stepS l x e).2 = true
    · rw [if_pos ho]
      exact hid _ (graph_dom hl x e hx.1 he ho)
    · rw [if_neg ho] at h; simp at h
  have hfin := bfs_size (n := n) (step := stepR l K) (start := rd K st) (fun x e hx he h => stepR_dom hl hKL hKR x e hx he h) (hkd st hst) l.length
  have hlq : ∀ x i, domS l x → domS l i → rd K i = x → rd K x = x → Lq n (stepR l K) (stepS l) x i := by
    intro x i hx hi hxi hxx
    refine Lq.of_rel (fun x i => domS l x ∧ domS l i ∧ rd K i = x ∧ rd K x = x) ?_ ⟨hx, hi, hxi, hxx⟩
    rintro x i e ⟨hx, hi, hxi, hxx⟩ he
    have hpi := (hcl x i hx hi).1 (by rw [hxx, hxi])
    have hok2 := hpi.ok he
    unfold stepR
    cases ho : (stepS l x e).2 with
    | false =>
      rw [ho] at hok2
      simp [← hok2]
    | true =>
      have hnx := hpi.next he ho
      rw [ho] at hok2
      have hd1 := graph_dom hl _ e hx he ho
      have hd2 := graph_dom hl _ e hi he hok2.symm
      simp only [if_true]
      exact ⟨hok2, fun _ => ⟨hkd _ hd1, hd2, ((hcl _ _ hd1 hd2).2 hnx).symm, hid _ hd1⟩⟩
  refine ⟨⟨stepR l K, rd K st, fun x => domS l x ∧ rd K x = x, l.length, rfl, hfin, hD, ⟨hkd st hst, hid st hst⟩, fun x y hx hy h => ?_, hlq _ _ (hkd st hst) hst rfl (hid st hst)⟩, ?_⟩
  · have h1 := ((hlq x x hx.1 hx.1 hx.2 hx.2).symm.trans h).trans (hlq y y hy.1 hy.1 hy.2 hy.2)
    rw [← hx.2, ← hy.2]
    exact (hcl _ _ hx.1 hy.1).2 h1
  · have := (bfs_done hfin).1
    omega
end Go.Proofs.Ytmphigeefppfpaa.H
namespace Go.Proofs.Ytmphigeefppfpaa.Q
open Go.RowKit Go.Proofs.YtmphigeefppfpaaW.PrintWords Go.Proofs.YtmphigeefppfpaaW.PrintLast Go.Proofs.YtmphigeefppfpaaW.PrintMore
attribute [local go_sem] max2_int min2_int max_two min_two max_three min_three max_four min_four
set_option linter.unusedVariables false
set_option linter.unusedSimpArgs false
mutual
def virgationref11_Same.j0 : Nat → Bool → Int → Int → List (List Int) → Int → Int → List (List Int) → Option (Bool)
  | 0, _, _, _, _, _, _, _ => none
  | k + 1, x37, x113000, x113001, x113002, x114000, x114001, x114002 => if x37 = true then (some false) else (virgationref11_Same.l0 k (x113002.length : Int) 0 x113000 x113001 x113002 x114000 x114001 x114002)
def virgationref11_Same.l0 : Nat → Int → Int → Int → Int → List (List Int) → Int → Int → List (List Int) → Option (Bool)
  | 0, _, _, _, _, _, _, _, _ => none
  | k + 1, x40, x41, x113000, x113001, x113002, x114000, x114001, x114002 => if x41 < x40 then (if 0 ≤ x41 then (if x41 < (x113002.length : Int) then (virgationref11_Same.l1 k x41 x40 x41 ((rd_L1 x113002 x41).length : Int) 0 x113000 x113001 x113002 x114000 x114001 x114002) else (none)) else (none)) else (some true)
def virgationref11_Same.l1 : Nat → Int → Int → Int → Int → Int → Int → Int → List (List Int) → Int → Int → List (List Int) → Option (Bool)
  | 0, _, _, _, _, _, _, _, _, _, _, _ => none
  | k + 1, x5, x40, x41, x49, x50, x113000, x113001, x113002, x114000, x114001, x114002 => if x50 < x49 then (if 0 ≤ x5 then (if x5 < (x113002.length : Int) then (if 0 ≤ x50 then (if x50 < ((rd_L1 x113002 x5).length : Int) then (if x5 < (x114002.length : Int) then (if x50 < ((rd_L1 x114002 x5).length : Int) then (if (rd (rd_L1 x113002 x5) x50) = (rd (rd_L1 x114002 x5) x50) then (virgationref11_Same.l1 k x5 x40 x41 x49 (wrap64 (x50 + 1)) x113000 x113001 x113002 x114000 x114001 x114002) else (some false)) else (none)) else (none)) else (none)) else (none)) else (none)) else (none)) else (virgationref11_Same.l0 k x40 (wrap64 (x41 + 1)) x113000 x113001 x113002 x114000 x114001 x114002)
end
def virgationref11_Same.f (k : Nat) (a0_0 : Int) (a0_1 : Int) (l0_2 : List (List Int)) (a1_0 : Int) (a1_1 : Int) (l1_2 : List (List Int)) : Option (Bool) := (virgationref11_Is.f k a0_0 a0_1 l0_2).bind fun t114 => (if t114 = true then ((virgationref11_Is.f k a1_0 a1_1 l1_2).bind fun t115 => (if t115 = true then (if a0_0 = a1_0 then (if a0_1 = a1_1 then (virgationref11_Same.j0 k ((l0_2.length : Int) != (l1_2.length : Int)) a0_0 a0_1 l0_2 a1_0 a1_1 l1_2) else (virgationref11_Same.j0 k true a0_0 a0_1 l0_2 a1_0 a1_1 l1_2)) else (virgationref11_Same.j0 k true a0_0 a0_1 l0_2 a1_0 a1_1 l1_2)) else (virgationref11_Same.j0 k true a0_0 a0_1 l0_2 a1_0 a1_1 l1_2))) else (virgationref11_Same.j0 k true a0_0 a0_1 l0_2 a1_0 a1_1 l1_2))
set_option maxHeartbeats 8000000 in
set_option maxRecDepth 100000 in
theorem virgationref11_Same.calls (k : Nat) (a0_0 : Int) (a0_1 : Int) (A0_2 : Option Addr) (c0_2 : Nat) (l0_2 : List (List Int)) (a1_0 : Int) (a1_1 : Int) (A1_2 : Option Addr) (c1_2 : Nat) (l1_2 : List (List Int)) (r : Bool) (w : World) (hr0_2 : Kd.C (Kd.slice 3 (Kd.int .i64)) w A0_2 l0_2.length l0_2) (hc0_2 : l0_2.length ≤ c0_2) (hr1_2 : Kd.C (Kd.slice 3 (Kd.int .i64)) w A1_2 l1_2.length l1_2) (hc1_2 : l1_2.length ≤ c1_2) (h : virgationref11_Same.f k a0_0 a0_1 l0_2 a1_0 a1_1 l1_2 = some r) :
    Calls Try.prog 21 #[.agg #[.int .i64 a0_0, .int .i64 a0_1, .slice A0_2 l0_2.length c0_2], .agg #[.int .i64 a1_0, .int .i64 a1_1, .slice A1_2 l1_2.length c1_2]] w fun e w' => e = .returned (.bool r) ∧ Below w.heap.size w w' := by
  have hu24 := Try.underlying24
  have HR0_2 := Aside0.mk hr0_2
  have HC0_2 := Aside0.mk hc0_2
  clear hr0_2 hc0_2
  have HR1_2 := Aside0.mk hr1_2
  have HC1_2 := Aside0.mk hc1_2
  clear hr1_2 hc1_2
  have HB := Aside0.mk (Below.refl w.heap.size w)
  have H : ((virgationref11_Is.f k a0_0 a0_1 l0_2).bind fun t114 => (if t114 = true then ((virgationref11_Is.f k a1_0 a1_1 l1_2).bind fun t115 => (if t115 = true then (if a0_0 = a1_0 then (if a0_1 = a1_1 then (virgationref11_Same.j0 k ((l0_2.length : Int) != (l1_2.length : Int)) a0_0 a0_1 l0_2 a1_0 a1_1 l1_2) else (virgationref11_Same.j0 k true a0_0 a0_1 l0_2 a1_0 a1_1 l1_2)) else (virgationref11_Same.j0 k true a0_0 a0_1 l0_2 a1_0 a1_1 l1_2)) else (virgationref11_Same.j0 k true a0_0 a0_1 l0_2 a1_0 a1_1 l1_2))) else (virgationref11_Same.j0 k true a0_0 a0_1 l0_2 a1_0 a1_1 l1_2))) = some r := h
  clear h
  have HC3 := Aside0.mk H
  clear H
  go_enter Try.func21, Try.ntmps21
  go_upto_region 1 with (first | ((with_reducible refine gate_dst (N := 2) rfl ?_); (try (refine gate_guard (by rfl) ?_; dsimp only)); refine box_event ?hg (N := 2) ?hd (cs := #[.int .i64 a0_0, .int .i64 a0_1, .slice A0_2 l0_2.length c0_2]) (t := 24) ?hr ?_; (case hd => rfl); (case hg => rfl); (case hr => first | (go_simp; done) | (go_simp; rfl)); intro gb112 hg w4 hbox hb; have n0_ := Aside0.mk (below_step (by repeat (first | (with_reducible first | exact HB.out | apply below_alloc | apply pw_below_drewN | apply below_drew1) | exact HB.out)) hb); have n1_ := Aside0.mk (hbox); have n2_ := Aside0.mk ((by rw [hg]; exact (below_size (by repeat (first | (with_reducible first | exact HB.out | apply below_alloc | apply pw_below_drewN | apply below_drew1) | exact HB.out))) : w.heap.size ≤ gb112)); have n3_ := Aside0.mk ((by rw [hg]; exact (below_size (by repeat (first | (with_reducible first | exact HB.out | apply below_alloc | apply pw_below_drewN | apply below_drew1) | exact HB.out))) : w.heap.size ≤ gb112)); clear HB; have HB := n0_; have BK112 := n1_; have GW112 := n2_; have GE112 := n3_; clear n0_ n1_ n2_ n3_; clear hb hbox hg) | ((with_reducible refine gate_dst (N := 3) rfl ?_); (try (refine gate_guard (by rfl) ?_; dsimp only)); refine box_event ?hg (N := 3) ?hd (cs := #[.int .i64 a1_0, .int .i64 a1_1, .slice A1_2 l1_2.length c1_2]) (t := 24) ?hr ?_; (case hd => rfl); (case hg => rfl); (case hr => first | (go_simp; done) | (go_simp; rfl)); intro gb113 hg w5 hbox hb; have n0_ := Aside0.mk (blk_below (g := gb112) (o := .cells #[.int .i64 a0_0, .int .i64 a0_1, .slice A0_2 l0_2.length c0_2] 24 (0, 0)) (by (with_reducible repeat (first | refine blk_drewN ?_ _ | refine blk_drew ?_ | refine blk_alloc ?_ _)); exact BK112.out) hb); have n1_ := Aside0.mk (below_step (by repeat (first | (with_reducible first | exact HB.out | apply below_alloc | apply pw_below_drewN | apply below_drew1 | refine below_set ?_ GE112.out) | exact HB.out)) hb); have n2_ := Aside0.mk (hbox); have n3_ := Aside0.mk ((by rw [hg]; exact (below_size (by repeat (first | (with_reducible first | exact HB.out | apply below_alloc | apply pw_below_drewN | apply below_drew1 | refine below_set ?_ GE112.out) | exact HB.out))) : w.heap.size ≤ gb113)); have n4_ := Aside0.mk ((by rw [hg]; exact (below_size (by repeat (first | (with_reducible first | exact HB.out | apply below_alloc | apply pw_below_drewN | apply below_drew1 | refine below_set ?_ GE112.out) | exact HB.out))) : w.heap.size ≤ gb113)); have n5_ := Aside0.mk ((by rw [hg]; exact Nat.ne_of_lt (blk_lt (g := gb112) (o := .cells #[.int .i64 a0_0, .int .i64 a0_1, .slice A0_2 l0_2.length c0_2] 24 (0, 0)) (by (with_reducible repeat (first | refine blk_drewN ?_ _ | refine blk_drew ?_ | refine blk_alloc ?_ _)); exact BK112.out)) : gb112 ≠ gb113)); have n6_ := Aside0.mk ((by rw [hg]; exact Nat.ne_of_gt (blk_lt (g := gb112) (o := .cells #[.int .i64 a0_0, .int .i64 a0_1, .slice A0_2 l0_2.length c0_2] 24 (0, 0)) (by (with_reducible repeat (first | refine blk_drewN ?_ _ | refine blk_drew ?_ | refine blk_alloc ?_ _)); exact BK112.out)) : gb113 ≠ gb112)); clear BK112; clear HB; have BK112 := n0_; have HB := n1_; have BK113 := n2_; have GW113 := n3_; have GE113 := n4_; have NB112_113 := n5_; have NB113_112 := n6_; clear n0_ n1_ n2_ n3_ n4_ n5_ n6_; clear hb hbox hg))
  repeat (go_quiet (first | ((with_reducible refine gate_dst (N := 2) rfl ?_); (try (refine gate_guard (by rfl) ?_; dsimp only)); refine box_event ?hg (N := 2) ?hd (cs := #[.int .i64 a0_0, .int .i64 a0_1, .slice A0_2 l0_2.length c0_2]) (t := 24) ?hr ?_; (case hd => rfl); (case hg => rfl); (case hr => first | (go_simp; done) | (go_simp; rfl)); intro gb112 hg w4 hbox hb; have n0_ := Aside0.mk (below_step (by repeat (first | (with_reducible first | exact HB.out | apply below_alloc | apply pw_below_drewN | apply below_drew1) | exact HB.out)) hb); have n1_ := Aside0.mk (hbox); have n2_ := Aside0.mk ((by rw [hg]; exact (below_size (by repeat (first | (with_reducible first | exact HB.out | apply below_alloc | apply pw_below_drewN | apply below_drew1) | exact HB.out))) : w.heap.size ≤ gb112)); have n3_ := Aside0.mk ((by rw [hg]; exact (below_size (by repeat (first | (with_reducible first | exact HB.out | apply below_alloc | apply pw_below_drewN | apply below_drew1) | exact HB.out))) : w.heap.size ≤ gb112)); clear HB; have HB := n0_; have BK112 := n1_; have GW112 := n2_; have GE112 := n3_; clear n0_ n1_ n2_ n3_; clear hb hbox hg) | ((with_reducible refine gate_dst (N := 3) rfl ?_); (try (refine gate_guard (by rfl) ?_; dsimp only)); refine box_event ?hg (N := 3) ?hd (cs := #[.int .i64 a1_0, .int .i64 a1_1, .slice A1_2 l1_2.length c1_2]) (t := 24) ?hr ?_; (case hd => rfl); (case hg => rfl); (case hr => first | (go_simp; done) | (go_simp; rfl)); intro gb113 hg w5 hbox hb; have n0_ := Aside0.mk (blk_below (g := gb112) (o := .cells #[.int .i64 a0_0, .int .i64 a0_1, .slice A0_2 l0_2.length c0_2] 24 (0, 0)) (by (with_reducible repeat (first | refine blk_drewN ?_ _ | refine blk_drew ?_ | refine blk_alloc ?_ _)); exact BK112.out) hb); have n1_ := Aside0.mk (below_step (by repeat (first | (with_reducible first | exact HB.out | apply below_alloc | apply pw_below_drewN | apply below_drew1 | refine below_set ?_ GE112.out) | exact HB.out)) hb); have n2_ := Aside0.mk (hbox); have n3_ := Aside0.mk ((by rw [hg]; exact (below_size (by repeat (first | (with_reducible first | exact HB.out | apply below_alloc | apply pw_below_drewN | apply below_drew1 | refine below_set ?_ GE112.out) | exact HB.out))) : w.heap.size ≤ gb113)); have n4_ := Aside0.mk ((by rw [hg]; exact (below_size (by repeat (first | (with_reducible first | exact HB.out | apply below_alloc | apply pw_below_drewN | apply below_drew1 | refine below_set ?_ GE112.out) | exact HB.out))) : w.heap.size ≤ gb113)); have n5_ := Aside0.mk ((by rw [hg]; exact Nat.ne_of_lt (blk_lt (g := gb112) (o := .cells #[.int .i64 a0_0, .int .i64 a0_1, .slice A0_2 l0_2.length c0_2] 24 (0, 0)) (by (with_reducible repeat (first | refine blk_drewN ?_ _ | refine blk_drew ?_ | refine blk_alloc ?_ _)); exact BK112.out)) : gb112 ≠ gb113)); have n6_ := Aside0.mk ((by rw [hg]; exact Nat.ne_of_gt (blk_lt (g := gb112) (o := .cells #[.int .i64 a0_0, .int .i64 a0_1, .slice A0_2 l0_2.length c0_2] 24 (0, 0)) (by (with_reducible repeat (first | refine blk_drewN ?_ _ | refine blk_drew ?_ | refine blk_alloc ?_ _)); exact BK112.out)) : gb113 ≠ gb112)); clear BK112; clear HB; have BK112 := n0_; have HB := n1_; have BK113 := n2_; have GW113 := n3_; have GE113 := n4_; have NB112_113 := n5_; have NB113_112 := n6_; clear n0_ n1_ n2_ n3_ n4_ n5_ n6_; clear hb hbox hg)); go_upto_region 1 with (first | ((with_reducible refine gate_dst (N := 2) rfl ?_); (try (refine gate_guard (by rfl) ?_; dsimp only)); refine box_event ?hg (N := 2) ?hd (cs := #[.int .i64 a0_0, .int .i64 a0_1, .slice A0_2 l0_2.length c0_2]) (t := 24) ?hr ?_; (case hd => rfl); (case hg => rfl); (case hr => first | (go_simp; done) | (go_simp; rfl)); intro gb112 hg w4 hbox hb; have n0_ := Aside0.mk (below_step (by repeat (first | (with_reducible first | exact HB.out | apply below_alloc | apply pw_below_drewN | apply below_drew1) | exact HB.out)) hb); have n1_ := Aside0.mk (hbox); have n2_ := Aside0.mk ((by rw [hg]; exact (below_size (by repeat (first | (with_reducible first | exact HB.out | apply below_alloc | apply pw_below_drewN | apply below_drew1) | exact HB.out))) : w.heap.size ≤ gb112)); have n3_ := Aside0.mk ((by rw [hg]; exact (below_size (by repeat (first | (with_reducible first | exact HB.out | apply below_alloc | apply pw_below_drewN | apply below_drew1) | exact HB.out))) : w.heap.size ≤ gb112)); clear HB; have HB := n0_; have BK112 := n1_; have GW112 := n2_; have GE112 := n3_; clear n0_ n1_ n2_ n3_; clear hb hbox hg) | ((with_reducible refine gate_dst (N := 3) rfl ?_); (try (refine gate_guard (by rfl) ?_; dsimp only)); refine box_event ?hg (N := 3) ?hd (cs := #[.int .i64 a1_0, .int .i64 a1_1, .slice A1_2 l1_2.length c1_2]) (t := 24) ?hr ?_; (case hd => rfl); (case hg => rfl); (case hr => first | (go_simp; done) | (go_simp; rfl)); intro gb113 hg w5 hbox hb; have n0_ := Aside0.mk (blk_below (g := gb112) (o := .cells #[.int .i64 a0_0, .int .i64 a0_1, .slice A0_2 l0_2.length c0_2] 24 (0, 0)) (by (with_reducible repeat (first | refine blk_drewN ?_ _ | refine blk_drew ?_ | refine blk_alloc ?_ _)); exact BK112.out) hb); have n1_ := Aside0.mk (below_step (by repeat (first | (with_reducible first | exact HB.out | apply below_alloc | apply pw_below_drewN | apply below_drew1 | refine below_set ?_ GE112.out) | exact HB.out)) hb); have n2_ := Aside0.mk (hbox); have n3_ := Aside0.mk ((by rw [hg]; exact (below_size (by repeat (first | (with_reducible first | exact HB.out | apply below_alloc | apply pw_below_drewN | apply below_drew1 | refine below_set ?_ GE112.out) | exact HB.out))) : w.heap.size ≤ gb113)); have n4_ := Aside0.mk ((by rw [hg]; exact (below_size (by repeat (first | (with_reducible first | exact HB.out | apply below_alloc | apply pw_below_drewN | apply below_drew1 | refine below_set ?_ GE112.out) | exact HB.out))) : w.heap.size ≤ gb113)); have n5_ := Aside0.mk ((by rw [hg]; exact Nat.ne_of_lt (blk_lt (g := gb112) (o := .cells #[.int .i64 a0_0, .int .i64 a0_1, .slice A0_2 l0_2.length c0_2] 24 (0, 0)) (by (with_reducible repeat (first | refine blk_drewN ?_ _ | refine blk_drew ?_ | refine blk_alloc ?_ _)); exact BK112.out)) : gb112 ≠ gb113)); have n6_ := Aside0.mk ((by rw [hg]; exact Nat.ne_of_gt (blk_lt (g := gb112) (o := .cells #[.int .i64 a0_0, .int .i64 a0_1, .slice A0_2 l0_2.length c0_2] 24 (0, 0)) (by (with_reducible repeat (first | refine blk_drewN ?_ _ | refine blk_drew ?_ | refine blk_alloc ?_ _)); exact BK112.out)) : gb113 ≠ gb112)); clear BK112; clear HB; have BK112 := n0_; have HB := n1_; have BK113 := n2_; have GW113 := n3_; have GE113 := n4_; have NB112_113 := n5_; have NB113_112 := n6_; clear n0_ n1_ n2_ n3_ n4_ n5_ n6_; clear hb hbox hg)))
  (try simp only [Act.put, List.setIfInBounds_toArray, List.set_cons_zero, List.set_cons_succ])
  go_cut [37] (fun v37 wc => ∃ (kq : Nat) (x37_2 : Bool), v37 = .bool x37_2 ∧ Aside0 (virgationref11_Same.j0 kq x37_2 a0_0 a0_1 l0_2 a1_0 a1_1 l1_2 = some r) ∧ Aside0 (kq ≤ k) ∧ Aside0 (wc.heap[gb112]? = some (.cells #[.int .i64 a0_0, .int .i64 a0_1, (.slice A0_2 l0_2.length c0_2)] 24 (0, 0))) ∧ Aside0 (wc.heap[gb113]? = some (.cells #[.int .i64 a1_0, .int .i64 a1_1, (.slice A1_2 l1_2.length c1_2)] 24 (0, 0))) ∧ Aside0 (Below w.heap.size w wc))
  case first =>
    have H := HC3.out
    clear HC3
    replace H := Option.bind_eq_some_iff.mp H
    obtain ⟨t114, A60, H⟩ := H
    replace H : (if t114 = true then ((virgationref11_Is.f k a1_0 a1_1 l1_2).bind fun t115 => (if t115 = true then (if a0_0 = a1_0 then (if a0_1 = a1_1 then (virgationref11_Same.j0 k ((l0_2.length : Int) != (l1_2.length : Int)) a0_0 a0_1 l0_2 a1_0 a1_1 l1_2) else (virgationref11_Same.j0 k true a0_0 a0_1 l0_2 a1_0 a1_1 l1_2)) else (virgationref11_Same.j0 k true a0_0 a0_1 l0_2 a1_0 a1_1 l1_2)) else (virgationref11_Same.j0 k true a0_0 a0_1 l0_2 a1_0 a1_1 l1_2))) else (virgationref11_Same.j0 k true a0_0 a0_1 l0_2 a1_0 a1_1 l1_2)) = some r := H
    have A6 := Aside0.mk A60
    clear A60
    by_cases c7 : t114 = true
    · subst c7
      have H1 : ((virgationref11_Is.f k a1_0 a1_1 l1_2).bind fun t115 => (if t115 = true then (if a0_0 = a1_0 then (if a0_1 = a1_1 then (virgationref11_Same.j0 k ((l0_2.length : Int) != (l1_2.length : Int)) a0_0 a0_1 l0_2 a1_0 a1_1 l1_2) else (virgationref11_Same.j0 k true a0_0 a0_1 l0_2 a1_0 a1_1 l1_2)) else (virgationref11_Same.j0 k true a0_0 a0_1 l0_2 a1_0 a1_1 l1_2)) else (virgationref11_Same.j0 k true a0_0 a0_1 l0_2 a1_0 a1_1 l1_2))) = some r := by rw [if_pos rfl] at H; exact H
      clear H
      have H := H1
      clear H1
      replace H := Option.bind_eq_some_iff.mp H
      obtain ⟨t115, A80, H⟩ := H
      replace H : (if t115 = true then (if a0_0 = a1_0 then (if a0_1 = a1_1 then (virgationref11_Same.j0 k ((l0_2.length : Int) != (l1_2.length : Int)) a0_0 a0_1 l0_2 a1_0 a1_1 l1_2) else (virgationref11_Same.j0 k true a0_0 a0_1 l0_2 a1_0 a1_1 l1_2)) else (virgationref11_Same.j0 k true a0_0 a0_1 l0_2 a1_0 a1_1 l1_2)) else (virgationref11_Same.j0 k true a0_0 a0_1 l0_2 a1_0 a1_1 l1_2)) = some r := H
      have A8 := Aside0.mk A80
      clear A80
      by_cases c9 : t115 = true
      · subst c9
        have H1 : (if a0_0 = a1_0 then (if a0_1 = a1_1 then (virgationref11_Same.j0 k ((l0_2.length : Int) != (l1_2.length : Int)) a0_0 a0_1 l0_2 a1_0 a1_1 l1_2) else (virgationref11_Same.j0 k true a0_0 a0_1 l0_2 a1_0 a1_1 l1_2)) else (virgationref11_Same.j0 k true a0_0 a0_1 l0_2 a1_0 a1_1 l1_2)) = some r := by rw [if_pos rfl] at H; exact H
        clear H
        have H := H1
        clear H1
        by_cases c10 : a0_0 = a1_0
        · rw [if_pos c10] at H
          have c10b0 : (a0_0 == a1_0) = true := beq_iff_eq.mpr c10
          have c10b1 : (a0_0 != a1_0) = false := bne_eq_false_iff_eq.mpr c10
          clear c10
          (first | rw [c10b0] | (simp only [i64_w, i32_w]; rw [c10b0]) | skip)
          by_cases c11 : a0_1 = a1_1
          · rw [if_pos c11] at H
            have c11b0 : (a0_1 == a1_1) = true := beq_iff_eq.mpr c11
            have c11b1 : (a0_1 != a1_1) = false := bne_eq_false_iff_eq.mpr c11
            clear c11
            have H' := Aside0.mk H
            clear H
            have hnb12 := NB112_113.out
            have hnc12 := NB113_112.out
            have hcz13_0 : w5.cell? ⟨gb112, 0, none⟩ = some (.int .i64 a0_0) := (blk_cell BK112.out 0).trans rfl
            have hcz13_1 : w5.cell? ⟨gb112, 1, none⟩ = some (.int .i64 a0_1) := (blk_cell BK112.out 1).trans rfl
            have hcz13_2 : w5.cell? ⟨gb112, 2, none⟩ = some (.slice A0_2 l0_2.length c0_2) := (blk_cell BK112.out 2).trans rfl
            have hfz13_0 := blk_frozen BK112.out 0
            have hfz13_1 := blk_frozen BK112.out 1
            have hfz13_2 := blk_frozen BK112.out 2
            go_wp2_with (first | (go_at_call 20; (with_reducible refine (virgationref11_Is.calls k a0_0 a0_1 _ _ l0_2 true _ ?side1 ?side2 A6.out).mono ?_); (case side1 => repeat (first | exact (Kd.C_below HR0_2.out HB.out) | (with_reducible refine Kd.C_alloc ?_ _) | (with_reducible refine Kd.C_drewN ?_ _) | (with_reducible refine Kd.C_drew ?_))); (case side2 => exact HC0_2.out); rintro e w14 ⟨rfl, hb⟩; have n0_ := Aside0.mk (blk_below (g := gb112) (o := .cells #[.int .i64 a0_0, .int .i64 a0_1, .slice A0_2 l0_2.length c0_2] 24 (0, 0)) (by (with_reducible repeat (first | refine blk_drewN ?_ _ | refine blk_drew ?_ | refine blk_alloc ?_ _)); exact BK112.out) hb); have n1_ := Aside0.mk (blk_below (g := gb113) (o := .cells #[.int .i64 a1_0, .int .i64 a1_1, .slice A1_2 l1_2.length c1_2] 24 (0, 0)) (by (with_reducible repeat (first | refine blk_drewN ?_ _ | refine blk_drew ?_ | refine blk_alloc ?_ _)); exact BK113.out) hb); have n2_ := Aside0.mk (below_step (by repeat (first | (with_reducible first | exact HB.out | apply below_alloc | apply pw_below_drewN | apply below_drew1 | refine below_set ?_ GE112.out | refine below_set ?_ GE113.out) | exact HB.out)) hb); clear BK112; clear BK113; clear HB; have BK112 := n0_; have BK113 := n1_; have HB := n2_; clear n0_ n1_ n2_; (try clear hb); (try clear hb2); (try clear hk); (try clear hi); have hcz15_0 : w14.cell? ⟨gb113, 0, none⟩ = some (.int .i64 a1_0) := (blk_cell BK113.out 0).trans rfl; have hcz15_1 : w14.cell? ⟨gb113, 1, none⟩ = some (.int .i64 a1_1) := (blk_cell BK113.out 1).trans rfl; have hcz15_2 : w14.cell? ⟨gb113, 2, none⟩ = some (.slice A1_2 l1_2.length c1_2) := (blk_cell BK113.out 2).trans rfl; have hfz15_0 := blk_frozen BK113.out 0; have hfz15_1 := blk_frozen BK113.out 1; have hfz15_2 := blk_frozen BK113.out 2) | (go_at_call 20; (with_reducible refine (virgationref11_Is.calls k a1_0 a1_1 _ _ l1_2 true _ ?side1 ?side2 A8.out).mono ?_); (case side1 => repeat (first | exact (Kd.C_below HR1_2.out HB.out) | (with_reducible refine Kd.C_alloc ?_ _) | (with_reducible refine Kd.C_drewN ?_ _) | (with_reducible refine Kd.C_drew ?_))); (case side2 => exact HC1_2.out); rintro e w16 ⟨rfl, hb⟩; have n0_ := Aside0.mk (blk_below (g := gb112) (o := .cells #[.int .i64 a0_0, .int .i64 a0_1, .slice A0_2 l0_2.length c0_2] 24 (0, 0)) (by (with_reducible repeat (first | refine blk_drewN ?_ _ | refine blk_drew ?_ | refine blk_alloc ?_ _)); exact BK112.out) hb); have n1_ := Aside0.mk (blk_below (g := gb113) (o := .cells #[.int .i64 a1_0, .int .i64 a1_1, .slice A1_2 l1_2.length c1_2] 24 (0, 0)) (by (with_reducible repeat (first | refine blk_drewN ?_ _ | refine blk_drew ?_ | refine blk_alloc ?_ _)); exact BK113.out) hb); have n2_ := Aside0.mk (below_step (by repeat (first | (with_reducible first | exact HB.out | apply below_alloc | apply pw_below_drewN | apply below_drew1 | refine below_set ?_ GE112.out | refine below_set ?_ GE113.out) | exact HB.out)) hb); clear BK112; clear BK113; clear HB; have BK112 := n0_; have BK113 := n1_; have HB := n2_; clear n0_ n1_ n2_; (try clear hb); (try clear hb2); (try clear hk); (try clear hi); have hcz17_0 : w16.cell? ⟨gb112, 0, none⟩ = some (.int .i64 a0_0) := (blk_cell BK112.out 0).trans rfl; have hcz17_1 : w16.cell? ⟨gb112, 1, none⟩ = some (.int .i64 a0_1) := (blk_cell BK112.out 1).trans rfl; have hcz17_2 : w16.cell? ⟨gb112, 2, none⟩ = some (.slice A0_2 l0_2.length c0_2) := (blk_cell BK112.out 2).trans rfl; have hfz17_0 := blk_frozen BK112.out 0; have hfz17_1 := blk_frozen BK112.out 1; have hfz17_2 := blk_frozen BK112.out 2; have hcz18_0 : w16.cell? ⟨gb113, 0, none⟩ = some (.int .i64 a1_0) := (blk_cell BK113.out 0).trans rfl; have hcz18_1 : w16.cell? ⟨gb113, 1, none⟩ = some (.int .i64 a1_1) := (blk_cell BK113.out 1).trans rfl; have hcz18_2 : w16.cell? ⟨gb113, 2, none⟩ = some (.slice A1_2 l1_2.length c1_2) := (blk_cell BK113.out 2).trans rfl; have hfz18_0 := blk_frozen BK113.out 0; have hfz18_1 := blk_frozen BK113.out 1; have hfz18_2 := blk_frozen BK113.out 2))
            repeat (go_quiet (first | (go_at_call 20; (with_reducible refine (virgationref11_Is.calls k a0_0 a0_1 _ _ l0_2 true _ ?side1 ?side2 A6.out).mono ?_); (case side1 => repeat (first | exact (Kd.C_below HR0_2.out HB.out) | (with_reducible refine Kd.C_alloc ?_ _) | (with_reducible refine Kd.C_drewN ?_ _) | (with_reducible refine Kd.C_drew ?_))); (case side2 => exact HC0_2.out); rintro e w14 ⟨rfl, hb⟩; have n0_ := Aside0.mk (blk_below (g := gb112) (o := .cells #[.int .i64 a0_0, .int .i64 a0_1, .slice A0_2 l0_2.length c0_2] 24 (0, 0)) (by (with_reducible repeat (first | refine blk_drewN ?_ _ | refine blk_drew ?_ | refine blk_alloc ?_ _)); exact BK112.out) hb); have n1_ := Aside0.mk (blk_below (g := gb113) (o := .cells #[.int .i64 a1_0, .int .i64 a1_1, .slice A1_2 l1_2.length c1_2] 24 (0, 0)) (by (with_reducible repeat (first | refine blk_drewN ?_ _ | refine blk_drew ?_ | refine blk_alloc ?_ _)); exact BK113.out) hb); have n2_ := Aside0.mk (below_step (by repeat (first | (with_reducible first | exact HB.out | apply below_alloc | apply pw_below_drewN | apply below_drew1 | refine below_set ?_ GE112.out | refine below_set ?_ GE113.out) | exact HB.out)) hb); clear BK112; clear BK113; clear HB; have BK112 := n0_; have BK113 := n1_; have HB := n2_; clear n0_ n1_ n2_; (try clear hb); (try clear hb2); (try clear hk); (try clear hi); have hcz15_0 : w14.cell? ⟨gb113, 0, none⟩ = some (.int .i64 a1_0) := (blk_cell BK113.out 0).trans rfl; have hcz15_1 : w14.cell? ⟨gb113, 1, none⟩ = some (.int .i64 a1_1) := (blk_cell BK113.out 1).trans rfl; have hcz15_2 : w14.cell? ⟨gb113, 2, none⟩ = some (.slice A1_2 l1_2.length c1_2) := (blk_cell BK113.out 2).trans rfl; have hfz15_0 := blk_frozen BK113.out 0; have hfz15_1 := blk_frozen BK113.out 1; have hfz15_2 := blk_frozen BK113.out 2) | (go_at_call 20; (with_reducible refine (virgationref11_Is.calls k a1_0 a1_1 _ _ l1_2 true _ ?side1 ?side2 A8.out).mono ?_); (case side1 => repeat (first | exact (Kd.C_below HR1_2.out HB.out) | (with_reducible refine Kd.C_alloc ?_ _) | (with_reducible refine Kd.C_drewN ?_ _) | (with_reducible refine Kd.C_drew ?_))); (case side2 => exact HC1_2.out); rintro e w16 ⟨rfl, hb⟩; have n0_ := Aside0.mk (blk_below (g := gb112) (o := .cells #[.int .i64 a0_0, .int .i64 a0_1, .slice A0_2 l0_2.length c0_2] 24 (0, 0)) (by (with_reducible repeat (first | refine blk_drewN ?_ _ | refine blk_drew ?_ | refine blk_alloc ?_ _)); exact BK112.out) hb); have n1_ := Aside0.mk (blk_below (g := gb113) (o := .cells #[.int .i64 a1_0, .int .i64 a1_1, .slice A1_2 l1_2.length c1_2] 24 (0, 0)) (by (with_reducible repeat (first | refine blk_drewN ?_ _ | refine blk_drew ?_ | refine blk_alloc ?_ _)); exact BK113.out) hb); have n2_ := Aside0.mk (below_step (by repeat (first | (with_reducible first | exact HB.out | apply below_alloc | apply pw_below_drewN | apply below_drew1 | refine below_set ?_ GE112.out | refine below_set ?_ GE113.out) | exact HB.out)) hb); clear BK112; clear BK113; clear HB; have BK112 := n0_; have BK113 := n1_; have HB := n2_; clear n0_ n1_ n2_; (try clear hb); (try clear hb2); (try clear hk); (try clear hi); have hcz17_0 : w16.cell? ⟨gb112, 0, none⟩ = some (.int .i64 a0_0) := (blk_cell BK112.out 0).trans rfl; have hcz17_1 : w16.cell? ⟨gb112, 1, none⟩ = some (.int .i64 a0_1) := (blk_cell BK112.out 1).trans rfl; have hcz17_2 : w16.cell? ⟨gb112, 2, none⟩ = some (.slice A0_2 l0_2.length c0_2) := (blk_cell BK112.out 2).trans rfl; have hfz17_0 := blk_frozen BK112.out 0; have hfz17_1 := blk_frozen BK112.out 1; have hfz17_2 := blk_frozen BK112.out 2; have hcz18_0 : w16.cell? ⟨gb113, 0, none⟩ = some (.int .i64 a1_0) := (blk_cell BK113.out 0).trans rfl; have hcz18_1 : w16.cell? ⟨gb113, 1, none⟩ = some (.int .i64 a1_1) := (blk_cell BK113.out 1).trans rfl; have hcz18_2 : w16.cell? ⟨gb113, 2, none⟩ = some (.slice A1_2 l1_2.length c1_2) := (blk_cell BK113.out 2).trans rfl; have hfz18_0 := blk_frozen BK113.out 0; have hfz18_1 := blk_frozen BK113.out 1; have hfz18_2 := blk_frozen BK113.out 2)); try go_wp2_with (first | (go_at_call 20; (with_reducible refine (virgationref11_Is.calls k a0_0 a0_1 _ _ l0_2 true _ ?side1 ?side2 A6.out).mono ?_); (case side1 => repeat (first | exact (Kd.C_below HR0_2.out HB.out) | (with_reducible refine Kd.C_alloc ?_ _) | (with_reducible refine Kd.C_drewN ?_ _) | (with_reducible refine Kd.C_drew ?_))); (case side2 => exact HC0_2.out); rintro e w14 ⟨rfl, hb⟩; have n0_ := Aside0.mk (blk_below (g := gb112) (o := .cells #[.int .i64 a0_0, .int .i64 a0_1, .slice A0_2 l0_2.length c0_2] 24 (0, 0)) (by (with_reducible repeat (first | refine blk_drewN ?_ _ | refine blk_drew ?_ | refine blk_alloc ?_ _)); exact BK112.out) hb); have n1_ := Aside0.mk (blk_below (g := gb113) (o := .cells #[.int .i64 a1_0, .int .i64 a1_1, .slice A1_2 l1_2.length c1_2] 24 (0, 0)) (by (with_reducible repeat (first | refine blk_drewN ?_ _ | refine blk_drew ?_ | refine blk_alloc ?_ _)); exact BK113.out) hb); have n2_ := Aside0.mk (below_step (by repeat (first | (with_reducible first | exact HB.out | apply below_alloc | apply pw_below_drewN | apply below_drew1 | refine below_set ?_ GE112.out | refine below_set ?_ GE113.out) | exact HB.out)) hb); clear BK112; clear BK113; clear HB; have BK112 := n0_; have BK113 := n1_; have HB := n2_; clear n0_ n1_ n2_; (try clear hb); (try clear hb2); (try clear hk); (try clear hi); have hcz15_0 : w14.cell? ⟨gb113, 0, none⟩ = some (.int .i64 a1_0) := (blk_cell BK113.out 0).trans rfl; have hcz15_1 : w14.cell? ⟨gb113, 1, none⟩ = some (.int .i64 a1_1) := (blk_cell BK113.out 1).trans rfl; have hcz15_2 : w14.cell? ⟨gb113, 2, none⟩ = some (.slice A1_2 l1_2.length c1_2) := (blk_cell BK113.out 2).trans rfl; have hfz15_0 := blk_frozen BK113.out 0; have hfz15_1 := blk_frozen BK113.out 1; have hfz15_2 := blk_frozen BK113.out 2) | (go_at_call 20; (with_reducible refine (virgationref11_Is.calls k a1_0 a1_1 _ _ l1_2 true _ ?side1 ?side2 A8.out).mono ?_); (case side1 => repeat (first | exact (Kd.C_below HR1_2.out HB.out) | (with_reducible refine Kd.C_alloc ?_ _) | (with_reducible refine Kd.C_drewN ?_ _) | (with_reducible refine Kd.C_drew ?_))); (case side2 => exact HC1_2.out); rintro e w16 ⟨rfl, hb⟩; have n0_ := Aside0.mk (blk_below (g := gb112) (o := .cells #[.int .i64 a0_0, .int .i64 a0_1, .slice A0_2 l0_2.length c0_2] 24 (0, 0)) (by (with_reducible repeat (first | refine blk_drewN ?_ _ | refine blk_drew ?_ | refine blk_alloc ?_ _)); exact BK112.out) hb); have n1_ := Aside0.mk (blk_below (g := gb113) (o := .cells #[.int .i64 a1_0, .int .i64 a1_1, .slice A1_2 l1_2.length c1_2] 24 (0, 0)) (by (with_reducible repeat (first | refine blk_drewN ?_ _ | refine blk_drew ?_ | refine blk_alloc ?_ _)); exact BK113.out) hb); have n2_ := Aside0.mk (below_step (by repeat (first | (with_reducible first | exact HB.out | apply below_alloc | apply pw_below_drewN | apply below_drew1 | refine below_set ?_ GE112.out | refine below_set ?_ GE113.out) | exact HB.out)) hb); clear BK112; clear BK113; clear HB; have BK112 := n0_; have BK113 := n1_; have HB := n2_; clear n0_ n1_ n2_; (try clear hb); (try clear hb2); (try clear hk); (try clear hi); have hcz17_0 : w16.cell? ⟨gb112, 0, none⟩ = some (.int .i64 a0_0) := (blk_cell BK112.out 0).trans rfl; have hcz17_1 : w16.cell? ⟨gb112, 1, none⟩ = some (.int .i64 a0_1) := (blk_cell BK112.out 1).trans rfl; have hcz17_2 : w16.cell? ⟨gb112, 2, none⟩ = some (.slice A0_2 l0_2.length c0_2) := (blk_cell BK112.out 2).trans rfl; have hfz17_0 := blk_frozen BK112.out 0; have hfz17_1 := blk_frozen BK112.out 1; have hfz17_2 := blk_frozen BK112.out 2; have hcz18_0 : w16.cell? ⟨gb113, 0, none⟩ = some (.int .i64 a1_0) := (blk_cell BK113.out 0).trans rfl; have hcz18_1 : w16.cell? ⟨gb113, 1, none⟩ = some (.int .i64 a1_1) := (blk_cell BK113.out 1).trans rfl; have hcz18_2 : w16.cell? ⟨gb113, 2, none⟩ = some (.slice A1_2 l1_2.length c1_2) := (blk_cell BK113.out 2).trans rfl; have hfz18_0 := blk_frozen BK113.out 0; have hfz18_1 := blk_frozen BK113.out 1; have hfz18_2 := blk_frozen BK113.out 2)))
            go_meet
            case rel => exact ⟨_, (((l0_2.length : Int) != (l1_2.length : Int))), (by first | rfl | (simp; done) | (simp [*]; done)), H', ⟨by first | omega | exact Nat.le_refl _⟩, ⟨by (with_reducible repeat (first | refine blk_drewN ?_ _ | refine blk_drew ?_ | refine blk_alloc ?_ _)); exact BK112.out⟩, ⟨by (with_reducible repeat (first | refine blk_drewN ?_ _ | refine blk_drew ?_ | refine blk_alloc ?_ _)); exact BK113.out⟩, ⟨by repeat (first | (with_reducible first | exact HB.out | apply below_alloc | apply pw_below_drewN | apply below_drew1 | refine below_set ?_ GE112.out | refine below_set ?_ GE113.out) | exact HB.out)⟩⟩
          · rw [if_neg c11] at H
            have c11b0 : (a0_1 == a1_1) = false := beq_eq_false_iff_ne.mpr c11
            have c11b1 : (a0_1 != a1_1) = true := bne_iff_ne.mpr c11
            have H' := Aside0.mk H
            clear H
            have hnb19 := NB112_113.out
            have hnc19 := NB113_112.out
            have hcz20_0 : w5.cell? ⟨gb112, 0, none⟩ = some (.int .i64 a0_0) := (blk_cell BK112.out 0).trans rfl
            have hcz20_1 : w5.cell? ⟨gb112, 1, none⟩ = some (.int .i64 a0_1) := (blk_cell BK112.out 1).trans rfl
            have hcz20_2 : w5.cell? ⟨gb112, 2, none⟩ = some (.slice A0_2 l0_2.length c0_2) := (blk_cell BK112.out 2).trans rfl
            have hfz20_0 := blk_frozen BK112.out 0
            have hfz20_1 := blk_frozen BK112.out 1
            have hfz20_2 := blk_frozen BK112.out 2
            go_wp2_with (first | (go_at_call 20; (with_reducible refine (virgationref11_Is.calls k a0_0 a0_1 _ _ l0_2 true _ ?side1 ?side2 A6.out).mono ?_); (case side1 => repeat (first | exact (Kd.C_below HR0_2.out HB.out) | (with_reducible refine Kd.C_alloc ?_ _) | (with_reducible refine Kd.C_drewN ?_ _) | (with_reducible refine Kd.C_drew ?_))); (case side2 => exact HC0_2.out); rintro e w21 ⟨rfl, hb⟩; have n0_ := Aside0.mk (blk_below (g := gb112) (o := .cells #[.int .i64 a0_0, .int .i64 a0_1, .slice A0_2 l0_2.length c0_2] 24 (0, 0)) (by (with_reducible repeat (first | refine blk_drewN ?_ _ | refine blk_drew ?_ | refine blk_alloc ?_ _)); exact BK112.out) hb); have n1_ := Aside0.mk (blk_below (g := gb113) (o := .cells #[.int .i64 a1_0, .int .i64 a1_1, .slice A1_2 l1_2.length c1_2] 24 (0, 0)) (by (with_reducible repeat (first | refine blk_drewN ?_ _ | refine blk_drew ?_ | refine blk_alloc ?_ _)); exact BK113.out) hb); have n2_ := Aside0.mk (below_step (by repeat (first | (with_reducible first | exact HB.out | apply below_alloc | apply pw_below_drewN | apply below_drew1 | refine below_set ?_ GE112.out | refine below_set ?_ GE113.out) | exact HB.out)) hb); clear BK112; clear BK113; clear HB; have BK112 := n0_; have BK113 := n1_; have HB := n2_; clear n0_ n1_ n2_; (try clear hb); (try clear hb2); (try clear hk); (try clear hi); have hcz22_0 : w21.cell? ⟨gb113, 0, none⟩ = some (.int .i64 a1_0) := (blk_cell BK113.out 0).trans rfl; have hcz22_1 : w21.cell? ⟨gb113, 1, none⟩ = some (.int .i64 a1_1) := (blk_cell BK113.out 1).trans rfl; have hcz22_2 : w21.cell? ⟨gb113, 2, none⟩ = some (.slice A1_2 l1_2.length c1_2) := (blk_cell BK113.out 2).trans rfl; have hfz22_0 := blk_frozen BK113.out 0; have hfz22_1 := blk_frozen BK113.out 1; have hfz22_2 := blk_frozen BK113.out 2) | (go_at_call 20; (with_reducible refine (virgationref11_Is.calls k a1_0 a1_1 _ _ l1_2 true _ ?side1 ?side2 A8.out).mono ?_); (case side1 => repeat (first | exact (Kd.C_below HR1_2.out HB.out) | (with_reducible refine Kd.C_alloc ?_ _) | (with_reducible refine Kd.C_drewN ?_ _) | (with_reducible refine Kd.C_drew ?_))); (case side2 => exact HC1_2.out); rintro e w23 ⟨rfl, hb⟩; have n0_ := Aside0.mk (blk_below (g := gb112) (o := .cells #[.int .i64 a0_0, .int .i64 a0_1, .slice A0_2 l0_2.length c0_2] 24 (0, 0)) (by (with_reducible repeat (first | refine blk_drewN ?_ _ | refine blk_drew ?_ | refine blk_alloc ?_ _)); exact BK112.out) hb); have n1_ := Aside0.mk (blk_below (g := gb113) (o := .cells #[.int .i64 a1_0, .int .i64 a1_1, .slice A1_2 l1_2.length c1_2] 24 (0, 0)) (by (with_reducible repeat (first | refine blk_drewN ?_ _ | refine blk_drew ?_ | refine blk_alloc ?_ _)); exact BK113.out) hb); have n2_ := Aside0.mk (below_step (by repeat (first | (with_reducible first | exact HB.out | apply below_alloc | apply pw_below_drewN | apply below_drew1 | refine below_set ?_ GE112.out | refine below_set ?_ GE113.out) | exact HB.out)) hb); clear BK112; clear BK113; clear HB; have BK112 := n0_; have BK113 := n1_; have HB := n2_; clear n0_ n1_ n2_; (try clear hb); (try clear hb2); (try clear hk); (try clear hi); have hcz24_0 : w23.cell? ⟨gb112, 0, none⟩ = some (.int .i64 a0_0) := (blk_cell BK112.out 0).trans rfl; have hcz24_1 : w23.cell? ⟨gb112, 1, none⟩ = some (.int .i64 a0_1) := (blk_cell BK112.out 1).trans rfl; have hcz24_2 : w23.cell? ⟨gb112, 2, none⟩ = some (.slice A0_2 l0_2.length c0_2) := (blk_cell BK112.out 2).trans rfl; have hfz24_0 := blk_frozen BK112.out 0; have hfz24_1 := blk_frozen BK112.out 1; have hfz24_2 := blk_frozen BK112.out 2; have hcz25_0 : w23.cell? ⟨gb113, 0, none⟩ = some (.int .i64 a1_0) := (blk_cell BK113.out 0).trans rfl; have hcz25_1 : w23.cell? ⟨gb113, 1, none⟩ = some (.int .i64 a1_1) := (blk_cell BK113.out 1).trans rfl; have hcz25_2 : w23.cell? ⟨gb113, 2, none⟩ = some (.slice A1_2 l1_2.length c1_2) := (blk_cell BK113.out 2).trans rfl; have hfz25_0 := blk_frozen BK113.out 0; have hfz25_1 := blk_frozen BK113.out 1; have hfz25_2 := blk_frozen BK113.out 2))
            repeat (go_quiet (first | (go_at_call 20; (with_reducible refine (virgationref11_Is.calls k a0_0 a0_1 _ _ l0_2 true _ ?side1 ?side2 A6.out).mono ?_); (case side1 => repeat (first | exact (Kd.C_below HR0_2.out HB.out) | (with_reducible refine Kd.C_alloc ?_ _) | (with_reducible refine Kd.C_drewN ?_ _) | (with_reducible refine Kd.C_drew ?_))); (case side2 => exact HC0_2.out); rintro e w21 ⟨rfl, hb⟩; have n0_ := Aside0.mk (blk_below (g := gb112) (o := .cells #[.int .i64 a0_0, .int .i64 a0_1, .slice A0_2 l0_2.length c0_2] 24 (0, 0)) (by (with_reducible repeat (first | refine blk_drewN ?_ _ | refine blk_drew ?_ | refine blk_alloc ?_ _)); exact BK112.out) hb); have n1_ := Aside0.mk (blk_below (g := gb113) (o := .cells #[.int .i64 a1_0, .int .i64 a1_1, .slice A1_2 l1_2.length c1_2] 24 (0, 0)) (by (with_reducible repeat (first | refine blk_drewN ?_ _ | refine blk_drew ?_ | refine blk_alloc ?_ _)); exact BK113.out) hb); have n2_ := Aside0.mk (below_step (by repeat (first | (with_reducible first | exact HB.out | apply below_alloc | apply pw_below_drewN | apply below_drew1 | refine below_set ?_ GE112.out | refine below_set ?_ GE113.out) | exact HB.out)) hb); clear BK112; clear BK113; clear HB; have BK112 := n0_; have BK113 := n1_; have HB := n2_; clear n0_ n1_ n2_; (try clear hb); (try clear hb2); (try clear hk); (try clear hi); have hcz22_0 : w21.cell? ⟨gb113, 0, none⟩ = some (.int .i64 a1_0) := (blk_cell BK113.out 0).trans rfl; have hcz22_1 : w21.cell? ⟨gb113, 1, none⟩ = some (.int .i64 a1_1) := (blk_cell BK113.out 1).trans rfl; have hcz22_2 : w21.cell? ⟨gb113, 2, none⟩ = some (.slice A1_2 l1_2.length c1_2) := (blk_cell BK113.out 2).trans rfl; have hfz22_0 := blk_frozen BK113.out 0; have hfz22_1 := blk_frozen BK113.out 1; have hfz22_2 := blk_frozen BK113.out 2) | (go_at_call 20; (with_reducible refine (virgationref11_Is.calls k a1_0 a1_1 _ _ l1_2 true _ ?side1 ?side2 A8.out).mono ?_); (case side1 => repeat (first | exact (Kd.C_below HR1_2.out HB.out) | (with_reducible refine Kd.C_alloc ?_ _) | (with_reducible refine Kd.C_drewN ?_ _) | (with_reducible refine Kd.C_drew ?_))); (case side2 => exact HC1_2.out); rintro e w23 ⟨rfl, hb⟩; have n0_ := Aside0.mk (blk_below (g := gb112) (o := .cells #[.int .i64 a0_0, .int .i64 a0_1, .slice A0_2 l0_2.length c0_2] 24 (0, 0)) (by (with_reducible repeat (first | refine blk_drewN ?_ _ | refine blk_drew ?_ | refine blk_alloc ?_ _)); exact BK112.out) hb); have n1_ := Aside0.mk (blk_below (g := gb113) (o := .cells #[.int .i64 a1_0, .int .i64 a1_1, .slice A1_2 l1_2.length c1_2] 24 (0, 0)) (by (with_reducible repeat (first | refine blk_drewN ?_ _ | refine blk_drew ?_ | refine blk_alloc ?_ _)); exact BK113.out) hb); have n2_ := Aside0.mk (below_step (by repeat (first | (with_reducible first | exact HB.out | apply below_alloc | apply pw_below_drewN | apply below_drew1 | refine below_set ?_ GE112.out | refine below_set ?_ GE113.out) | exact HB.out)) hb); clear BK112; clear BK113; clear HB; have BK112 := n0_; have BK113 := n1_; have HB := n2_; clear n0_ n1_ n2_; (try clear hb); (try clear hb2); (try clear hk); (try clear hi); have hcz24_0 : w23.cell? ⟨gb112, 0, none⟩ = some (.int .i64 a0_0) := (blk_cell BK112.out 0).trans rfl; have hcz24_1 : w23.cell? ⟨gb112, 1, none⟩ = some (.int .i64 a0_1) := (blk_cell BK112.out 1).trans rfl; have hcz24_2 : w23.cell? ⟨gb112, 2, none⟩ = some (.slice A0_2 l0_2.length c0_2) := (blk_cell BK112.out 2).trans rfl; have hfz24_0 := blk_frozen BK112.out 0; have hfz24_1 := blk_frozen BK112.out 1; have hfz24_2 := blk_frozen BK112.out 2; have hcz25_0 : w23.cell? ⟨gb113, 0, none⟩ = some (.int .i64 a1_0) := (blk_cell BK113.out 0).trans rfl; have hcz25_1 : w23.cell? ⟨gb113, 1, none⟩ = some (.int .i64 a1_1) := (blk_cell BK113.out 1).trans rfl; have hcz25_2 : w23.cell? ⟨gb113, 2, none⟩ = some (.slice A1_2 l1_2.length c1_2) := (blk_cell BK113.out 2).trans rfl; have hfz25_0 := blk_frozen BK113.out 0; have hfz25_1 := blk_frozen BK113.out 1; have hfz25_2 := blk_frozen BK113.out 2)); try go_wp2_with (first | (go_at_call 20; (with_reducible refine (virgationref11_Is.calls k a0_0 a0_1 _ _ l0_2 true _ ?side1 ?side2 A6.out).mono ?_); (case side1 => repeat (first | exact (Kd.C_below HR0_2.out HB.out) | (with_reducible refine Kd.C_alloc ?_ _) | (with_reducible refine Kd.C_drewN ?_ _) | (with_reducible refine Kd.C_drew ?_))); (case side2 => exact HC0_2.out); rintro e w21 ⟨rfl, hb⟩; have n0_ := Aside0.mk (blk_below (g := gb112) (o := .cells #[.int .i64 a0_0, .int .i64 a0_1, .slice A0_2 l0_2.length c0_2] 24 (0, 0)) (by (with_reducible repeat (first | refine blk_drewN ?_ _ | refine blk_drew ?_ | refine blk_alloc ?_ _)); exact BK112.out) hb); have n1_ := Aside0.mk (blk_below (g := gb113) (o := .cells #[.int .i64 a1_0, .int .i64 a1_1, .slice A1_2 l1_2.length c1_2] 24 (0, 0)) (by (with_reducible repeat (first | refine blk_drewN ?_ _ | refine blk_drew ?_ | refine blk_alloc ?_ _)); exact BK113.out) hb); have n2_ := Aside0.mk (below_step (by repeat (first | (with_reducible first | exact HB.out | apply below_alloc | apply pw_below_drewN | apply below_drew1 | refine below_set ?_ GE112.out | refine below_set ?_ GE113.out) | exact HB.out)) hb); clear BK112; clear BK113; clear HB; have BK112 := n0_; have BK113 := n1_; have HB := n2_; clear n0_ n1_ n2_; (try clear hb); (try clear hb2); (try clear hk); (try clear hi); have hcz22_0 : w21.cell? ⟨gb113, 0, none⟩ = some (.int .i64 a1_0) := (blk_cell BK113.out 0).trans rfl; have hcz22_1 : w21.cell? ⟨gb113, 1, none⟩ = some (.int .i64 a1_1) := (blk_cell BK113.out 1).trans rfl; have hcz22_2 : w21.cell? ⟨gb113, 2, none⟩ = some (.slice A1_2 l1_2.length c1_2) := (blk_cell BK113.out 2).trans rfl; have hfz22_0 := blk_frozen BK113.out 0; have hfz22_1 := blk_frozen BK113.out 1; have hfz22_2 := blk_frozen BK113.out 2) | (go_at_call 20; (with_reducible refine (virgationref11_Is.calls k a1_0 a1_1 _ _ l1_2 true _ ?side1 ?side2 A8.out).mono ?_); (case side1 => repeat (first | exact (Kd.C_below HR1_2.out HB.out) | (with_reducible refine Kd.C_alloc ?_ _) | (with_reducible refine Kd.C_drewN ?_ _) | (with_reducible refine Kd.C_drew ?_))); (case side2 => exact HC1_2.out); rintro e w23 ⟨rfl, hb⟩; have n0_ := Aside0.mk (blk_below (g := gb112) (o := .cells #[.int .i64 a0_0, .int .i64 a0_1, .slice A0_2 l0_2.length c0_2] 24 (0, 0)) (by (with_reducible repeat (first | refine blk_drewN ?_ _ | refine blk_drew ?_ | refine blk_alloc ?_ _)); exact BK112.out) hb); have n1_ := Aside0.mk (blk_below (g := gb113) (o := .cells #[.int .i64 a1_0, .int .i64 a1_1, .slice A1_2 l1_2.length c1_2] 24 (0, 0)) (by (with_reducible repeat (first | refine blk_drewN ?_ _ | refine blk_drew ?_ | refine blk_alloc ?_ _)); exact BK113.out) hb); have n2_ := Aside0.mk (below_step (by repeat (first | (with_reducible first | exact HB.out | apply below_alloc | apply pw_below_drewN | apply below_drew1 | refine below_set ?_ GE112.out | refine below_set ?_ GE113.out) | exact HB.out)) hb); clear BK112; clear BK113; clear HB; have BK112 := n0_; have BK113 := n1_; have HB := n2_; clear n0_ n1_ n2_; (try clear hb); (try clear hb2); (try clear hk); (try clear hi); have hcz24_0 : w23.cell? ⟨gb112, 0, none⟩ = some (.int .i64 a0_0) := (blk_cell BK112.out 0).trans rfl; have hcz24_1 : w23.cell? ⟨gb112, 1, none⟩ = some (.int .i64 a0_1) := (blk_cell BK112.out 1).trans rfl; have hcz24_2 : w23.cell? ⟨gb112, 2, none⟩ = some (.slice A0_2 l0_2.length c0_2) := (blk_cell BK112.out 2).trans rfl; have hfz24_0 := blk_frozen BK112.out 0; have hfz24_1 := blk_frozen BK112.out 1; have hfz24_2 := blk_frozen BK112.out 2; have hcz25_0 : w23.cell? ⟨gb113, 0, none⟩ = some (.int .i64 a1_0) := (blk_cell BK113.out 0).trans rfl; have hcz25_1 : w23.cell? ⟨gb113, 1, none⟩ = some (.int .i64 a1_1) := (blk_cell BK113.out 1).trans rfl; have hcz25_2 : w23.cell? ⟨gb113, 2, none⟩ = some (.slice A1_2 l1_2.length c1_2) := (blk_cell BK113.out 2).trans rfl; have hfz25_0 := blk_frozen BK113.out 0; have hfz25_1 := blk_frozen BK113.out 1; have hfz25_2 := blk_frozen BK113.out 2)))
            go_meet
            case rel => exact ⟨_, (true), (by first | rfl | (simp; done) | (simp [*]; done)), H', ⟨by first | omega | exact Nat.le_refl _⟩, ⟨by (with_reducible repeat (first | refine blk_drewN ?_ _ | refine blk_drew ?_ | refine blk_alloc ?_ _)); exact BK112.out⟩, ⟨by (with_reducible repeat (first | refine blk_drewN ?_ _ | refine blk_drew ?_ | refine blk_alloc ?_ _)); exact BK113.out⟩, ⟨by repeat (first | (with_reducible first | exact HB.out | apply below_alloc | apply pw_below_drewN | apply below_drew1 | refine below_set ?_ GE112.out | refine below_set ?_ GE113.out) | exact HB.out)⟩⟩
        · rw [if_neg c10] at H
          have c10b0 : (a0_0 == a1_0) = false := beq_eq_false_iff_ne.mpr c10
          have c10b1 : (a0_0 != a1_0) = true := bne_iff_ne.mpr c10
          (first | rw [c10b0] | (simp only [i64_w, i32_w]; rw [c10b0]) | skip)
          have H' := Aside0.mk H
          clear H
          have hnb26 := NB112_113.out
          have hnc26 := NB113_112.out
          have hcz27_0 : w5.cell? ⟨gb112, 0, none⟩ = some (.int .i64 a0_0) := (blk_cell BK112.out 0).trans rfl
          have hcz27_1 : w5.cell? ⟨gb112, 1, none⟩ = some (.int .i64 a0_1) := (blk_cell BK112.out 1).trans rfl
          have hcz27_2 : w5.cell? ⟨gb112, 2, none⟩ = some (.slice A0_2 l0_2.length c0_2) := (blk_cell BK112.out 2).trans rfl
          have hfz27_0 := blk_frozen BK112.out 0
          have hfz27_1 := blk_frozen BK112.out 1
          have hfz27_2 := blk_frozen BK112.out 2
          go_wp2_with (first | (go_at_call 20; (with_reducible refine (virgationref11_Is.calls k a0_0 a0_1 _ _ l0_2 true _ ?side1 ?side2 A6.out).mono ?_); (case side1 => repeat (first | exact (Kd.C_below HR0_2.out HB.out) | (with_reducible refine Kd.C_alloc ?_ _) | (with_reducible refine Kd.C_drewN ?_ _) | (with_reducible refine Kd.C_drew ?_))); (case side2 => exact HC0_2.out); rintro e w28 ⟨rfl, hb⟩; have n0_ := Aside0.mk (blk_below (g := gb112) (o := .cells #[.int .i64 a0_0, .int .i64 a0_1, .slice A0_2 l0_2.length c0_2] 24 (0, 0)) (by (with_reducible repeat (first | refine blk_drewN ?_ _ | refine blk_drew ?_ | refine blk_alloc ?_ _)); exact BK112.out) hb); have n1_ := Aside0.mk (blk_below (g := gb113) (o := .cells #[.int .i64 a1_0, .int .i64 a1_1, .slice A1_2 l1_2.length c1_2] 24 (0, 0)) (by (with_reducible repeat (first | refine blk_drewN ?_ _ | refine blk_drew ?_ | refine blk_alloc ?_ _)); exact BK113.out) hb); have n2_ := Aside0.mk (below_step (by repeat (first | (with_reducible first | exact HB.out | apply below_alloc | apply pw_below_drewN | apply below_drew1 | refine below_set ?_ GE112.out | refine below_set ?_ GE113.out) | exact HB.out)) hb); clear BK112; clear BK113; clear HB; have BK112 := n0_; have BK113 := n1_; have HB := n2_; clear n0_ n1_ n2_; (try clear hb); (try clear hb2); (try clear hk); (try clear hi); have hcz29_0 : w28.cell? ⟨gb113, 0, none⟩ = some (.int .i64 a1_0) := (blk_cell BK113.out 0).trans rfl; have hcz29_1 : w28.cell? ⟨gb113, 1, none⟩ = some (.int .i64 a1_1) := (blk_cell BK113.out 1).trans rfl; have hcz29_2 : w28.cell? ⟨gb113, 2, none⟩ = some (.slice A1_2 l1_2.length c1_2) := (blk_cell BK113.out 2).trans rfl; have hfz29_0 := blk_frozen BK113.out 0; have hfz29_1 := blk_frozen BK113.out 1; have hfz29_2 := blk_frozen BK113.out 2) | (go_at_call 20; (with_reducible refine (virgationref11_Is.calls k a1_0 a1_1 _ _ l1_2 true _ ?side1 ?side2 A8.out).mono ?_); (case side1 => repeat (first | exact (Kd.C_below HR1_2.out HB.out) | (with_reducible refine Kd.C_alloc ?_ _) | (with_reducible refine Kd.C_drewN ?_ _) | (with_reducible refine Kd.C_drew ?_))); (case side2 => exact HC1_2.out); rintro e w30 ⟨rfl, hb⟩; have n0_ := Aside0.mk (blk_below (g := gb112) (o := .cells #[.int .i64 a0_0, .int .i64 a0_1, .slice A0_2 l0_2.length c0_2] 24 (0, 0)) (by (with_reducible repeat (first | refine blk_drewN ?_ _ | refine blk_drew ?_ | refine blk_alloc ?_ _)); exact BK112.out) hb); have n1_ := Aside0.mk (blk_below (g := gb113) (o := .cells #[.int .i64 a1_0, .int .i64 a1_1, .slice A1_2 l1_2.length c1_2] 24 (0, 0)) (by (with_reducible repeat (first | refine blk_drewN ?_ _ | refine blk_drew ?_ | refine blk_alloc ?_ _)); exact BK113.out) hb); have n2_ := Aside0.mk (below_step (by repeat (first | (with_reducible first | exact HB.out | apply below_alloc | apply pw_below_drewN | apply below_drew1 | refine below_set ?_ GE112.out | refine below_set ?_ GE113.out) | exact HB.out)) hb); clear BK112; clear BK113; clear HB; have BK112 := n0_; have BK113 := n1_; have HB := n2_; clear n0_ n1_ n2_; (try clear hb); (try clear hb2); (try clear hk); (try clear hi); have hcz31_0 : w30.cell? ⟨gb112, 0, none⟩ = some (.int .i64 a0_0) := (blk_cell BK112.out 0).trans rfl; have hcz31_1 : w30.cell? ⟨gb112, 1, none⟩ = some (.int .i64 a0_1) := (blk_cell BK112.out 1).trans rfl; have hcz31_2 : w30.cell? ⟨gb112, 2, none⟩ = some (.slice A0_2 l0_2.length c0_2) := (blk_cell BK112.out 2).trans rfl; have hfz31_0 := blk_frozen BK112.out 0; have hfz31_1 := blk_frozen BK112.out 1; have hfz31_2 := blk_frozen BK112.out 2; have hcz32_0 : w30.cell? ⟨gb113, 0, none⟩ = some (.int .i64 a1_0) := (blk_cell BK113.out 0).trans rfl; have hcz32_1 : w30.cell? ⟨gb113, 1, none⟩ = some (.int .i64 a1_1) := (blk_cell BK113.out 1).trans rfl; have hcz32_2 : w30.cell? ⟨gb113, 2, none⟩ = some (.slice A1_2 l1_2.length c1_2) := (blk_cell BK113.out 2).trans rfl; have hfz32_0 := blk_frozen BK113.out 0; have hfz32_1 := blk_frozen BK113.out 1; have hfz32_2 := blk_frozen BK113.out 2))
          repeat (go_quiet (first | (go_at_call 20; (with_reducible refine (virgationref11_Is.calls k a0_0 a0_1 _ _ l0_2 true _ ?side1 ?side2 A6.out).mono ?_); (case side1 => repeat (first | exact (Kd.C_below HR0_2.out HB.out) | (with_reducible refine Kd.C_alloc ?_ _) | (with_reducible refine Kd.C_drewN ?_ _) | (with_reducible refine Kd.C_drew ?_))); (case side2 => exact HC0_2.out); rintro e w28 ⟨rfl, hb⟩; have n0_ := Aside0.mk (blk_below (g := gb112) (o := .cells #[.int .i64 a0_0, .int .i64 a0_1, .slice A0_2 l0_2.length c0_2] 24 (0, 0)) (by (with_reducible repeat (first | refine blk_drewN ?_ _ | refine blk_drew ?_ | refine blk_alloc ?_ _)); exact BK112.out) hb); have n1_ := Aside0.mk (blk_below (g := gb113) (o := .cells #[.int .i64 a1_0, .int .i64 a1_1, .slice A1_2 l1_2.length c1_2] 24 (0, 0)) (by (with_reducible repeat (first | refine blk_drewN ?_ _ | refine blk_drew ?_ | refine blk_alloc ?_ _)); exact BK113.out) hb); have n2_ := Aside0.mk (below_step (by repeat (first | (with_reducible first | exact HB.out | apply below_alloc | apply pw_below_drewN | apply below_drew1 | refine below_set ?_ GE112.out | refine below_set ?_ GE113.out) | exact HB.out)) hb); clear BK112; clear BK113; clear HB; have BK112 := n0_; have BK113 := n1_; have HB := n2_; clear n0_ n1_ n2_; (try clear hb); (try clear hb2); (try clear hk); (try clear hi); have hcz29_0 : w28.cell? ⟨gb113, 0, none⟩ = some (.int .i64 a1_0) := (blk_cell BK113.out 0).trans rfl; have hcz29_1 : w28.cell? ⟨gb113, 1, none⟩ = some (.int .i64 a1_1) := (blk_cell BK113.out 1).trans rfl; have hcz29_2 : w28.cell? ⟨gb113, 2, none⟩ = some (.slice A1_2 l1_2.length c1_2) := (blk_cell BK113.out 2).trans rfl; have hfz29_0 := blk_frozen BK113.out 0; have hfz29_1 := blk_frozen BK113.out 1; have hfz29_2 := blk_frozen BK113.out 2) | (go_at_call 20; (with_reducible refine (virgationref11_Is.calls k a1_0 a1_1 _ _ l1_2 true _ ?side1 ?side2 A8.out).mono ?_); (case side1 => repeat (first | exact (Kd.C_below HR1_2.out HB.out) | (with_reducible refine Kd.C_alloc ?_ _) | (with_reducible refine Kd.C_drewN ?_ _) | (with_reducible refine Kd.C_drew ?_))); (case side2 => exact HC1_2.out); rintro e w30 ⟨rfl, hb⟩; have n0_ := Aside0.mk (blk_below (g := gb112) (o := .cells #[.int .i64 a0_0, .int .i64 a0_1, .slice A0_2 l0_2.length c0_2] 24 (0, 0)) (by (with_reducible repeat (first | refine blk_drewN ?_ _ | refine blk_drew ?_ | refine blk_alloc ?_ _)); exact BK112.out) hb); have n1_ := Aside0.mk (blk_below (g := gb113) (o := .cells #[.int .i64 a1_0, .int .i64 a1_1, .slice A1_2 l1_2.length c1_2] 24 (0, 0)) (by (with_reducible repeat (first | refine blk_drewN ?_ _ | refine blk_drew ?_ | refine blk_alloc ?_ _)); exact BK113.out) hb); have n2_ := Aside0.mk (below_step (by repeat (first | (with_reducible first | exact HB.out | apply below_alloc | apply pw_below_drewN | apply below_drew1 | refine below_set ?_ GE112.out | refine below_set ?_ GE113.out) | exact HB.out)) hb); clear BK112; clear BK113; clear HB; have BK112 := n0_; have BK113 := n1_; have HB := n2_; clear n0_ n1_ n2_; (try clear hb); (try clear hb2); (try clear hk); (try clear hi); have hcz31_0 : w30.cell? ⟨gb112, 0, none⟩ = some (.int .i64 a0_0) := (blk_cell BK112.out 0).trans rfl; have hcz31_1 : w30.cell? ⟨gb112, 1, none⟩ = some (.int .i64 a0_1) := (blk_cell BK112.out 1).trans rfl; have hcz31_2 : w30.cell? ⟨gb112, 2, none⟩ = some (.slice A0_2 l0_2.length c0_2) := (blk_cell BK112.out 2).trans rfl; have hfz31_0 := blk_frozen BK112.out 0; have hfz31_1 := blk_frozen BK112.out 1; have hfz31_2 := blk_frozen BK112.out 2; have hcz32_0 : w30.cell? ⟨gb113, 0, none⟩ = some (.int .i64 a1_0) := (blk_cell BK113.out 0).trans rfl; have hcz32_1 : w30.cell? ⟨gb113, 1, none⟩ = some (.int .i64 a1_1) := (blk_cell BK113.out 1).trans rfl; have hcz32_2 : w30.cell? ⟨gb113, 2, none⟩ = some (.slice A1_2 l1_2.length c1_2) := (blk_cell BK113.out 2).trans rfl; have hfz32_0 := blk_frozen BK113.out 0; have hfz32_1 := blk_frozen BK113.out 1; have hfz32_2 := blk_frozen BK113.out 2)); try go_wp2_with (first | (go_at_call 20; (with_reducible refine (virgationref11_Is.calls k a0_0 a0_1 _ _ l0_2 true _ ?side1 ?side2 A6.out).mono ?_); (case side1 => repeat (first | exact (Kd.C_below HR0_2.out HB.out) | (with_reducible refine Kd.C_alloc ?_ _) | (with_reducible refine Kd.C_drewN ?_ _) | (with_reducible refine Kd.C_drew ?_))); (case side2 => exact HC0_2.out); rintro e w28 ⟨rfl, hb⟩; have n0_ := Aside0.mk (blk_below (g := gb112) (o := .cells #[.int .i64 a0_0, .int .i64 a0_1, .slice A0_2 l0_2.length c0_2] 24 (0, 0)) (by (with_reducible repeat (first | refine blk_drewN ?_ _ | refine blk_drew ?_ | refine blk_alloc ?_ _)); exact BK112.out) hb); have n1_ := Aside0.mk (blk_below (g := gb113) (o := .cells #[.int .i64 a1_0, .int .i64 a1_1, .slice A1_2 l1_2.length c1_2] 24 (0, 0)) (by (with_reducible repeat (first | refine blk_drewN ?_ _ | refine blk_drew ?_ | refine blk_alloc ?_ _)); exact BK113.out) hb); have n2_ := Aside0.mk (below_step (by repeat (first | (with_reducible first | exact HB.out | apply below_alloc | apply pw_below_drewN | apply below_drew1 | refine below_set ?_ GE112.out | refine below_set ?_ GE113.out) | exact HB.out)) hb); clear BK112; clear BK113; clear HB; have BK112 := n0_; have BK113 := n1_; have HB := n2_; clear n0_ n1_ n2_; (try clear hb); (try clear hb2); (try clear hk); (try clear hi); have hcz29_0 : w28.cell? ⟨gb113, 0, none⟩ = some (.int .i64 a1_0) := (blk_cell BK113.out 0).trans rfl; have hcz29_1 : w28.cell? ⟨gb113, 1, none⟩ = some (.int .i64 a1_1) := (blk_cell BK113.out 1).trans rfl; have hcz29_2 : w28.cell? ⟨gb113, 2, none⟩ = some (.slice A1_2 l1_2.length c1_2) := (blk_cell BK113.out 2).trans rfl; have hfz29_0 := blk_frozen BK113.out 0; have hfz29_1 := blk_frozen BK113.out 1; have hfz29_2 := blk_frozen BK113.out 2) | (go_at_call 20; (with_reducible refine (virgationref11_Is.calls k a1_0 a1_1 _ _ l1_2 true _ ?side1 ?side2 A8.out).mono ?_); (case side1 => repeat (first | exact (Kd.C_below HR1_2.out HB.out) | (with_reducible refine Kd.C_alloc ?_ _) | (with_reducible refine Kd.C_drewN ?_ _) | (with_reducible refine Kd.C_drew ?_))); (case side2 => exact HC1_2.out); rintro e w30 ⟨rfl, hb⟩; have n0_ := Aside0.mk (blk_below (g := gb112) (o := .cells #[.int .i64 a0_0, .int .i64 a0_1, .slice A0_2 l0_2.length c0_2] 24 (0, 0)) (by (with_reducible repeat (first | refine blk_drewN ?_ _ | refine blk_drew ?_ | refine blk_alloc ?_ _)); exact BK112.out) hb); have n1_ := Aside0.mk (blk_below (g := gb113) (o := .cells #[.int .i64 a1_0, .int .i64 a1_1, .slice A1_2 l1_2.length c1_2] 24 (0, 0)) (by (with_reducible repeat (first | refine blk_drewN ?_ _ | refine blk_drew ?_ | refine blk_alloc ?_ _)); exact BK113.out) hb); have n2_ := Aside0.mk (below_step (by repeat (first | (with_reducible first | exact HB.out | apply below_alloc | apply pw_below_drewN | apply below_drew1 | refine below_set ?_ GE112.out | refine below_set ?_ GE113.out) | exact HB.out)) hb); clear BK112; clear BK113; clear HB; have BK112 := n0_; have BK113 := n1_; have HB := n2_; clear n0_ n1_ n2_; (try clear hb); (try clear hb2); (try clear hk); (try clear hi); have hcz31_0 : w30.cell? ⟨gb112, 0, none⟩ = some (.int .i64 a0_0) := (blk_cell BK112.out 0).trans rfl; have hcz31_1 : w30.cell? ⟨gb112, 1, none⟩ = some (.int .i64 a0_1) := (blk_cell BK112.out 1).trans rfl; have hcz31_2 : w30.cell? ⟨gb112, 2, none⟩ = some (.slice A0_2 l0_2.length c0_2) := (blk_cell BK112.out 2).trans rfl; have hfz31_0 := blk_frozen BK112.out 0; have hfz31_1 := blk_frozen BK112.out 1; have hfz31_2 := blk_frozen BK112.out 2; have hcz32_0 : w30.cell? ⟨gb113, 0, none⟩ = some (.int .i64 a1_0) := (blk_cell BK113.out 0).trans rfl; have hcz32_1 : w30.cell? ⟨gb113, 1, none⟩ = some (.int .i64 a1_1) := (blk_cell BK113.out 1).trans rfl; have hcz32_2 : w30.cell? ⟨gb113, 2, none⟩ = some (.slice A1_2 l1_2.length c1_2) := (blk_cell BK113.out 2).trans rfl; have hfz32_0 := blk_frozen BK113.out 0; have hfz32_1 := blk_frozen BK113.out 1; have hfz32_2 := blk_frozen BK113.out 2)))
          go_meet
          case rel => exact ⟨_, (true), (by first | rfl | (simp; done) | (simp [*]; done)), H', ⟨by first | omega | exact Nat.le_refl _⟩, ⟨by (with_reducible repeat (first | refine blk_drewN ?_ _ | refine blk_drew ?_ | refine blk_alloc ?_ _)); exact BK112.out⟩, ⟨by (with_reducible repeat (first | refine blk_drewN ?_ _ | refine blk_drew ?_ | refine blk_alloc ?_ _)); exact BK113.out⟩, ⟨by repeat (first | (with_reducible first | exact HB.out | apply below_alloc | apply pw_below_drewN | apply below_drew1 | refine below_set ?_ GE112.out | refine below_set ?_ GE113.out) | exact HB.out)⟩⟩
      · replace c9 := Bool.eq_false_iff.mpr c9
        subst c9
        have H1 : (virgationref11_Same.j0 k true a0_0 a0_1 l0_2 a1_0 a1_1 l1_2) = some r := by rw [if_neg (show ¬ (false = true) by decide)] at H; exact H
        clear H
        have H := H1
        clear H1
        have H' := Aside0.mk H
        clear H
        have hnb33 := NB112_113.out
        have hnc33 := NB113_112.out
        have hcz34_0 : w5.cell? ⟨gb112, 0, none⟩ = some (.int .i64 a0_0) := (blk_cell BK112.out 0).trans rfl
        have hcz34_1 : w5.cell? ⟨gb112, 1, none⟩ = some (.int .i64 a0_1) := (blk_cell BK112.out 1).trans rfl
        have hcz34_2 : w5.cell? ⟨gb112, 2, none⟩ = some (.slice A0_2 l0_2.length c0_2) := (blk_cell BK112.out 2).trans rfl
        have hfz34_0 := blk_frozen BK112.out 0
        have hfz34_1 := blk_frozen BK112.out 1
        have hfz34_2 := blk_frozen BK112.out 2
        go_wp2_with (first | (go_at_call 20; (with_reducible refine (virgationref11_Is.calls k a0_0 a0_1 _ _ l0_2 true _ ?side1 ?side2 A6.out).mono ?_); (case side1 => repeat (first | exact (Kd.C_below HR0_2.out HB.out) | (with_reducible refine Kd.C_alloc ?_ _) | (with_reducible refine Kd.C_drewN ?_ _) | (with_reducible refine Kd.C_drew ?_))); (case side2 => exact HC0_2.out); rintro e w35 ⟨rfl, hb⟩; have n0_ := Aside0.mk (blk_below (g := gb112) (o := .cells #[.int .i64 a0_0, .int .i64 a0_1, .slice A0_2 l0_2.length c0_2] 24 (0, 0)) (by (with_reducible repeat (first | refine blk_drewN ?_ _ | refine blk_drew ?_ | refine blk_alloc ?_ _)); exact BK112.out) hb); have n1_ := Aside0.mk (blk_below (g := gb113) (o := .cells #[.int .i64 a1_0, .int .i64 a1_1, .slice A1_2 l1_2.length c1_2] 24 (0, 0)) (by (with_reducible repeat (first | refine blk_drewN ?_ _ | refine blk_drew ?_ | refine blk_alloc ?_ _)); exact BK113.out) hb); have n2_ := Aside0.mk (below_step (by repeat (first | (with_reducible first | exact HB.out | apply below_alloc | apply pw_below_drewN | apply below_drew1 | refine below_set ?_ GE112.out | refine below_set ?_ GE113.out) | exact HB.out)) hb); clear BK112; clear BK113; clear HB; have BK112 := n0_; have BK113 := n1_; have HB := n2_; clear n0_ n1_ n2_; (try clear hb); (try clear hb2); (try clear hk); (try clear hi); have hcz36_0 : w35.cell? ⟨gb113, 0, none⟩ = some (.int .i64 a1_0) := (blk_cell BK113.out 0).trans rfl; have hcz36_1 : w35.cell? ⟨gb113, 1, none⟩ = some (.int .i64 a1_1) := (blk_cell BK113.out 1).trans rfl; have hcz36_2 : w35.cell? ⟨gb113, 2, none⟩ = some (.slice A1_2 l1_2.length c1_2) := (blk_cell BK113.out 2).trans rfl; have hfz36_0 := blk_frozen BK113.out 0; have hfz36_1 := blk_frozen BK113.out 1; have hfz36_2 := blk_frozen BK113.out 2) | (go_at_call 20; (with_reducible refine (virgationref11_Is.calls k a1_0 a1_1 _ _ l1_2 false _ ?side1 ?side2 A8.out).mono ?_); (case side1 => repeat (first | exact (Kd.C_below HR1_2.out HB.out) | (with_reducible refine Kd.C_alloc ?_ _) | (with_reducible refine Kd.C_drewN ?_ _) | (with_reducible refine Kd.C_drew ?_))); (case side2 => exact HC1_2.out); rintro e w37 ⟨rfl, hb⟩; have n0_ := Aside0.mk (blk_below (g := gb112) (o := .cells #[.int .i64 a0_0, .int .i64 a0_1, .slice A0_2 l0_2.length c0_2] 24 (0, 0)) (by (with_reducible repeat (first | refine blk_drewN ?_ _ | refine blk_drew ?_ | refine blk_alloc ?_ _)); exact BK112.out) hb); have n1_ := Aside0.mk (blk_below (g := gb113) (o := .cells #[.int .i64 a1_0, .int .i64 a1_1, .slice A1_2 l1_2.length c1_2] 24 (0, 0)) (by (with_reducible repeat (first | refine blk_drewN ?_ _ | refine blk_drew ?_ | refine blk_alloc ?_ _)); exact BK113.out) hb); have n2_ := Aside0.mk (below_step (by repeat (first | (with_reducible first | exact HB.out | apply below_alloc | apply pw_below_drewN | apply below_drew1 | refine below_set ?_ GE112.out | refine below_set ?_ GE113.out) | exact HB.out)) hb); clear BK112; clear BK113; clear HB; have BK112 := n0_; have BK113 := n1_; have HB := n2_; clear n0_ n1_ n2_; (try clear hb); (try clear hb2); (try clear hk); (try clear hi)))
        repeat (go_quiet (first | (go_at_call 20; (with_reducible refine (virgationref11_Is.calls k a0_0 a0_1 _ _ l0_2 true _ ?side1 ?side2 A6.out).mono ?_); (case side1 => repeat (first | exact (Kd.C_below HR0_2.out HB.out) | (with_reducible refine Kd.C_alloc ?_ _) | (with_reducible refine Kd.C_drewN ?_ _) | (with_reducible refine Kd.C_drew ?_))); (case side2 => exact HC0_2.out); rintro e w35 ⟨rfl, hb⟩; have n0_ := Aside0.mk (blk_below (g := gb112) (o := .cells #[.int .i64 a0_0, .int .i64 a0_1, .slice A0_2 l0_2.length c0_2] 24 (0, 0)) (by (with_reducible repeat (first | refine blk_drewN ?_ _ | refine blk_drew ?_ | refine blk_alloc ?_ _)); exact BK112.out) hb); have n1_ := Aside0.mk (blk_below (g := gb113) (o := .cells #[.int .i64 a1_0, .int .i64 a1_1, .slice A1_2 l1_2.length c1_2] 24 (0, 0)) (by (with_reducible repeat (first | refine blk_drewN ?_ _ | refine blk_drew ?_ | refine blk_alloc ?_ _)); exact BK113.out) hb); have n2_ := Aside0.mk (below_step (by repeat (first | (with_reducible first | exact HB.out | apply below_alloc | apply pw_below_drewN | apply below_drew1 | refine below_set ?_ GE112.out | refine below_set ?_ GE113.out) | exact HB.out)) hb); clear BK112; clear BK113; clear HB; have BK112 := n0_; have BK113 := n1_; have HB := n2_; clear n0_ n1_ n2_; (try clear hb); (try clear hb2); (try clear hk); (try clear hi); have hcz36_0 : w35.cell? ⟨gb113, 0, none⟩ = some (.int .i64 a1_0) := (blk_cell BK113.out 0).trans rfl; have hcz36_1 : w35.cell? ⟨gb113, 1, none⟩ = some (.int .i64 a1_1) := (blk_cell BK113.out 1).trans rfl; have hcz36_2 : w35.cell? ⟨gb113, 2, none⟩ = some (.slice A1_2 l1_2.length c1_2) := (blk_cell BK113.out 2).trans rfl; have hfz36_0 := blk_frozen BK113.out 0; have hfz36_1 := blk_frozen BK113.out 1; have hfz36_2 := blk_frozen BK113.out 2) | (go_at_call 20; (with_reducible refine (virgationref11_Is.calls k a1_0 a1_1 _ _ l1_2 false _ ?side1 ?side2 A8.out).mono ?_); (case side1 => repeat (first | exact (Kd.C_below HR1_2.out HB.out) | (with_reducible refine Kd.C_alloc ?_ _) | (with_reducible refine Kd.C_drewN ?_ _) | (with_reducible refine Kd.C_drew ?_))); (case side2 => exact HC1_2.out); rintro e w37 ⟨rfl, hb⟩; have n0_ := Aside0.mk (blk_below (g := gb112) (o := .cells #[.int .i64 a0_0, .int .i64 a0_1, .slice A0_2 l0_2.length c0_2] 24 (0, 0)) (by (with_reducible repeat (first | refine blk_drewN ?_ _ | refine blk_drew ?_ | refine blk_alloc ?_ _)); exact BK112.out) hb); have n1_ := Aside0.mk (blk_below (g := gb113) (o := .cells #[.int .i64 a1_0, .int .i64 a1_1, .slice A1_2 l1_2.length c1_2] 24 (0, 0)) (by (with_reducible repeat (first | refine blk_drewN ?_ _ | refine blk_drew ?_ | refine blk_alloc ?_ _)); exact BK113.out) hb); have n2_ := Aside0.mk (below_step (by repeat (first | (with_reducible first | exact HB.out | apply below_alloc | apply pw_below_drewN | apply below_drew1 | refine below_set ?_ GE112.out | refine below_set ?_ GE113.out) | exact HB.out)) hb); clear BK112; clear BK113; clear HB; have BK112 := n0_; have BK113 := n1_; have HB := n2_; clear n0_ n1_ n2_; (try clear hb); (try clear hb2); (try clear hk); (try clear hi))); try go_wp2_with (first | (go_at_call 20; (with_reducible refine (virgationref11_Is.calls k a0_0 a0_1 _ _ l0_2 true _ ?side1 ?side2 A6.out).mono ?_); (case side1 => repeat (first | exact (Kd.C_below HR0_2.out HB.out) | (with_reducible refine Kd.C_alloc ?_ _) | (with_reducible refine Kd.C_drewN ?_ _) | (with_reducible refine Kd.C_drew ?_))); (case side2 => exact HC0_2.out); rintro e w35 ⟨rfl, hb⟩; have n0_ := Aside0.mk (blk_below (g := gb112) (o := .cells #[.int .i64 a0_0, .int .i64 a0_1, .slice A0_2 l0_2.length c0_2] 24 (0, 0)) (by (with_reducible repeat (first | refine blk_drewN ?_ _ | refine blk_drew ?_ | refine blk_alloc ?_ _)); exact BK112.out) hb); have n1_ := Aside0.mk (blk_below (g := gb113) (o := .cells #[.int .i64 a1_0, .int .i64 a1_1, .slice A1_2 l1_2.length c1_2] 24 (0, 0)) (by (with_reducible repeat (first | refine blk_drewN ?_ _ | refine blk_drew ?_ | refine blk_alloc ?_ _)); exact BK113.out) hb); have n2_ := Aside0.mk (below_step (by repeat (first | (with_reducible first | exact HB.out | apply below_alloc | apply pw_below_drewN | apply below_drew1 | refine below_set ?_ GE112.out | refine below_set ?_ GE113.out) | exact HB.out)) hb); clear BK112; clear BK113; clear HB; have BK112 := n0_; have BK113 := n1_; have HB := n2_; clear n0_ n1_ n2_; (try clear hb); (try clear hb2); (try clear hk); (try clear hi); have hcz36_0 : w35.cell? ⟨gb113, 0, none⟩ = some (.int .i64 a1_0) := (blk_cell BK113.out 0).trans rfl; have hcz36_1 : w35.cell? ⟨gb113, 1, none⟩ = some (.int .i64 a1_1) := (blk_cell BK113.out 1).trans rfl; have hcz36_2 : w35.cell? ⟨gb113, 2, none⟩ = some (.slice A1_2 l1_2.length c1_2) := (blk_cell BK113.out 2).trans rfl; have hfz36_0 := blk_frozen BK113.out 0; have hfz36_1 := blk_frozen BK113.out 1; have hfz36_2 := blk_frozen BK113.out 2) | (go_at_call 20; (with_reducible refine (virgationref11_Is.calls k a1_0 a1_1 _ _ l1_2 false _ ?side1 ?side2 A8.out).mono ?_); (case side1 => repeat (first | exact (Kd.C_below HR1_2.out HB.out) | (with_reducible refine Kd.C_alloc ?_ _) | (with_reducible refine Kd.C_drewN ?_ _) | (with_reducible refine Kd.C_drew ?_))); (case side2 => exact HC1_2.out); rintro e w37 ⟨rfl, hb⟩; have n0_ := Aside0.mk (blk_below (g := gb112) (o := .cells #[.int .i64 a0_0, .int .i64 a0_1, .slice A0_2 l0_2.length c0_2] 24 (0, 0)) (by (with_reducible repeat (first | refine blk_drewN ?_ _ | refine blk_drew ?_ | refine blk_alloc ?_ _)); exact BK112.out) hb); have n1_ := Aside0.mk (blk_below (g := gb113) (o := .cells #[.int .i64 a1_0, .int .i64 a1_1, .slice A1_2 l1_2.length c1_2] 24 (0, 0)) (by (with_reducible repeat (first | refine blk_drewN ?_ _ | refine blk_drew ?_ | refine blk_alloc ?_ _)); exact BK113.out) hb); have n2_ := Aside0.mk (below_step (by repeat (first | (with_reducible first | exact HB.out | apply below_alloc | apply pw_below_drewN | apply below_drew1 | refine below_set ?_ GE112.out | refine below_set ?_ GE113.out) | exact HB.out)) hb); clear BK112; clear BK113; clear HB; have BK112 := n0_; have BK113 := n1_; have HB := n2_; clear n0_ n1_ n2_; (try clear hb); (try clear hb2); (try clear hk); (try clear hi))))
        go_meet
        case rel => exact ⟨_, (true), (by first | rfl | (simp; done) | (simp [*]; done)), H', ⟨by first | omega | exact Nat.le_refl _⟩, ⟨by (with_reducible repeat (first | refine blk_drewN ?_ _ | refine blk_drew ?_ | refine blk_alloc ?_ _)); exact BK112.out⟩, ⟨by (with_reducible repeat (first | refine blk_drewN ?_ _ | refine blk_drew ?_ | refine blk_alloc ?_ _)); exact BK113.out⟩, ⟨by repeat (first | (with_reducible first | exact HB.out | apply below_alloc | apply pw_below_drewN | apply below_drew1 | refine below_set ?_ GE112.out | refine below_set ?_ GE113.out) | exact HB.out)⟩⟩
    · replace c7 := Bool.eq_false_iff.mpr c7
      subst c7
      have H1 : (virgationref11_Same.j0 k true a0_0 a0_1 l0_2 a1_0 a1_1 l1_2) = some r := by rw [if_neg (show ¬ (false = true) by decide)] at H; exact H
      clear H
      have H := H1
      clear H1
      have H' := Aside0.mk H
      clear H
      have hnb38 := NB112_113.out
      have hnc38 := NB113_112.out
      have hcz39_0 : w5.cell? ⟨gb112, 0, none⟩ = some (.int .i64 a0_0) := (blk_cell BK112.out 0).trans rfl
      have hcz39_1 : w5.cell? ⟨gb112, 1, none⟩ = some (.int .i64 a0_1) := (blk_cell BK112.out 1).trans rfl
      have hcz39_2 : w5.cell? ⟨gb112, 2, none⟩ = some (.slice A0_2 l0_2.length c0_2) := (blk_cell BK112.out 2).trans rfl
      have hfz39_0 := blk_frozen BK112.out 0
      have hfz39_1 := blk_frozen BK112.out 1
      have hfz39_2 := blk_frozen BK112.out 2
      go_wp2_with (first | (go_at_call 20; (with_reducible refine (virgationref11_Is.calls k a0_0 a0_1 _ _ l0_2 false _ ?side1 ?side2 A6.out).mono ?_); (case side1 => repeat (first | exact (Kd.C_below HR0_2.out HB.out) | (with_reducible refine Kd.C_alloc ?_ _) | (with_reducible refine Kd.C_drewN ?_ _) | (with_reducible refine Kd.C_drew ?_))); (case side2 => exact HC0_2.out); rintro e w40 ⟨rfl, hb⟩; have n0_ := Aside0.mk (blk_below (g := gb112) (o := .cells #[.int .i64 a0_0, .int .i64 a0_1, .slice A0_2 l0_2.length c0_2] 24 (0, 0)) (by (with_reducible repeat (first | refine blk_drewN ?_ _ | refine blk_drew ?_ | refine blk_alloc ?_ _)); exact BK112.out) hb); have n1_ := Aside0.mk (blk_below (g := gb113) (o := .cells #[.int .i64 a1_0, .int .i64 a1_1, .slice A1_2 l1_2.length c1_2] 24 (0, 0)) (by (with_reducible repeat (first | refine blk_drewN ?_ _ | refine blk_drew ?_ | refine blk_alloc ?_ _)); exact BK113.out) hb); have n2_ := Aside0.mk (below_step (by repeat (first | (with_reducible first | exact HB.out | apply below_alloc | apply pw_below_drewN | apply below_drew1 | refine below_set ?_ GE112.out | refine below_set ?_ GE113.out) | exact HB.out)) hb); clear BK112; clear BK113; clear HB; have BK112 := n0_; have BK113 := n1_; have HB := n2_; clear n0_ n1_ n2_; (try clear hb); (try clear hb2); (try clear hk); (try clear hi)))
      repeat (go_quiet (first | (go_at_call 20; (with_reducible refine (virgationref11_Is.calls k a0_0 a0_1 _ _ l0_2 false _ ?side1 ?side2 A6.out).mono ?_); (case side1 => repeat (first | exact (Kd.C_below HR0_2.out HB.out) | (with_reducible refine Kd.C_alloc ?_ _) | (with_reducible refine Kd.C_drewN ?_ _) | (with_reducible refine Kd.C_drew ?_))); (case side2 => exact HC0_2.out); rintro e w40 ⟨rfl, hb⟩; have n0_ := Aside0.mk (blk_below (g := gb112) (o := .cells #[.int .i64 a0_0, .int .i64 a0_1, .slice A0_2 l0_2.length c0_2] 24 (0, 0)) (by (with_reducible repeat (first | refine blk_drewN ?_ _ | refine blk_drew ?_ | refine blk_alloc ?_ _)); exact BK112.out) hb); have n1_ := Aside0.mk (blk_below (g := gb113) (o := .cells #[.int .i64 a1_0, .int .i64 a1_1, .slice A1_2 l1_2.length c1_2] 24 (0, 0)) (by (with_reducible repeat (first | refine blk_drewN ?_ _ | refine blk_drew ?_ | refine blk_alloc ?_ _)); exact BK113.out) hb); have n2_ := Aside0.mk (below_step (by repeat (first | (with_reducible first | exact HB.out | apply below_alloc | apply pw_below_drewN | apply below_drew1 | refine below_set ?_ GE112.out | refine below_set ?_ GE113.out) | exact HB.out)) hb); clear BK112; clear BK113; clear HB; have BK112 := n0_; have BK113 := n1_; have HB := n2_; clear n0_ n1_ n2_; (try clear hb); (try clear hb2); (try clear hk); (try clear hi))); try go_wp2_with (first | (go_at_call 20; (with_reducible refine (virgationref11_Is.calls k a0_0 a0_1 _ _ l0_2 false _ ?side1 ?side2 A6.out).mono ?_); (case side1 => repeat (first | exact (Kd.C_below HR0_2.out HB.out) | (with_reducible refine Kd.C_alloc ?_ _) | (with_reducible refine Kd.C_drewN ?_ _) | (with_reducible refine Kd.C_drew ?_))); (case side2 => exact HC0_2.out); rintro e w40 ⟨rfl, hb⟩; have n0_ := Aside0.mk (blk_below (g := gb112) (o := .cells #[.int .i64 a0_0, .int .i64 a0_1, .slice A0_2 l0_2.length c0_2] 24 (0, 0)) (by (with_reducible repeat (first | refine blk_drewN ?_ _ | refine blk_drew ?_ | refine blk_alloc ?_ _)); exact BK112.out) hb); have n1_ := Aside0.mk (blk_below (g := gb113) (o := .cells #[.int .i64 a1_0, .int .i64 a1_1, .slice A1_2 l1_2.length c1_2] 24 (0, 0)) (by (with_reducible repeat (first | refine blk_drewN ?_ _ | refine blk_drew ?_ | refine blk_alloc ?_ _)); exact BK113.out) hb); have n2_ := Aside0.mk (below_step (by repeat (first | (with_reducible first | exact HB.out | apply below_alloc | apply pw_below_drewN | apply below_drew1 | refine below_set ?_ GE112.out | refine below_set ?_ GE113.out) | exact HB.out)) hb); clear BK112; clear BK113; clear HB; have BK112 := n0_; have BK113 := n1_; have HB := n2_; clear n0_ n1_ n2_; (try clear hb); (try clear hb2); (try clear hk); (try clear hi))))
      go_meet
      case rel => exact ⟨_, (true), (by first | rfl | (simp; done) | (simp [*]; done)), H', ⟨by first | omega | exact Nat.le_refl _⟩, ⟨by (with_reducible repeat (first | refine blk_drewN ?_ _ | refine blk_drew ?_ | refine blk_alloc ?_ _)); exact BK112.out⟩, ⟨by (with_reducible repeat (first | refine blk_drewN ?_ _ | refine blk_drew ?_ | refine blk_alloc ?_ _)); exact BK113.out⟩, ⟨by repeat (first | (with_reducible first | exact HB.out | apply below_alloc | apply pw_below_drewN | apply below_drew1 | refine below_set ?_ GE112.out | refine below_set ?_ GE113.out) | exact HB.out)⟩⟩
  case rest =>
    clear HC3
    try clear c1
    try clear c2
    try clear p2
    try clear c3
    try clear c7
    try clear c9
    try clear c10
    try clear c10b0
    try clear c10b1
    try clear c11
    try clear c11b0
    try clear c11b1
    try clear c12
    try clear c19
    try clear c21
    try clear c26
    try clear c33
    try clear c38
    try clear hcz13_0
    try clear hcz13_1
    try clear hcz13_2
    try clear hcz15_0
    try clear hcz15_1
    try clear hcz15_2
    try clear hcz17_0
    try clear hcz17_1
    try clear hcz17_2
    try clear hcz18_0
    try clear hcz18_1
    try clear hcz18_2
    try clear hcz20_0
    try clear hcz20_1
    try clear hcz20_2
    try clear hcz22_0
    try clear hcz22_1
    try clear hcz22_2
    try clear hcz24_0
    try clear hcz24_1
    try clear hcz24_2
    try clear hcz25_0
    try clear hcz25_1
    try clear hcz25_2
    try clear hcz27_0
    try clear hcz27_1
    try clear hcz27_2
    try clear hcz29_0
    try clear hcz29_1
    try clear hcz29_2
    try clear hcz31_0
    try clear hcz31_1
    try clear hcz31_2
    try clear hcz32_0
    try clear hcz32_1
    try clear hcz32_2
    try clear hcz34_0
    try clear hcz34_1
    try clear hcz34_2
    try clear hcz36_0
    try clear hcz36_1
    try clear hcz36_2
    try clear hcz39_0
    try clear hcz39_1
    try clear hcz39_2
    try clear hfz13_0
    try clear hfz13_1
    try clear hfz13_2
    try clear hfz15_0
    try clear hfz15_1
    try clear hfz15_2
    try clear hfz17_0
    try clear hfz17_1
    try clear hfz17_2
    try clear hfz18_0
    try clear hfz18_1
    try clear hfz18_2
    try clear hfz20_0
    try clear hfz20_1
    try clear hfz20_2
    try clear hfz22_0
    try clear hfz22_1
    try clear hfz22_2
    try clear hfz24_0
    try clear hfz24_1
    try clear hfz24_2
    try clear hfz25_0
    try clear hfz25_1
    try clear hfz25_2
    try clear hfz27_0
    try clear hfz27_1
    try clear hfz27_2
    try clear hfz29_0
    try clear hfz29_1
    try clear hfz29_2
    try clear hfz31_0
    try clear hfz31_1
    try clear hfz31_2
    try clear hfz32_0
    try clear hfz32_1
    try clear hfz32_2
    try clear hfz34_0
    try clear hfz34_1
    try clear hfz34_2
    try clear hfz36_0
    try clear hfz36_1
    try clear hfz36_2
    try clear hfz39_0
    try clear hfz39_1
    try clear hfz39_2
    obtain ⟨kq, x37_2, rfl, HA, HJ2, BK112, BK113, HB⟩ := hcut
    cases kq with
    | zero => exact absurd HA.out (by simp [virgationref11_Same.j0])
    | succ kj2 =>
      have H := HA.out
      clear HA
      simp only [virgationref11_Same.j0] at H
      by_cases c41 : x37_2 = true
      · subst c41
        have H1 : (some false) = some r := by rw [if_pos rfl] at H; exact H
        clear H
        have H := H1
        clear H1
        obtain rfl := Option.some.inj H
        go_wp2
        repeat (go_quiet (fail); try go_wp2)
        go_ret
        exact ⟨by first | rfl | (simp [errW_none, errW_some] <;> rfl) | (simp [*, errW_none, errW_some] <;> rfl), by repeat (first | (with_reducible first | exact HB.out | apply below_alloc | apply pw_below_drewN | apply below_drew1 | refine below_set ?_ GE112.out | refine below_set ?_ GE113.out) | exact HB.out)⟩
      · replace c41 := Bool.eq_false_iff.mpr c41
        subst c41
        have H1 : (virgationref11_Same.l0 kj2 (l0_2.length : Int) 0 a0_0 a0_1 l0_2 a1_0 a1_1 l1_2) = some r := by rw [if_neg (show ¬ (false = true) by decide)] at H; exact H
        clear H
        have H := H1
        clear H1
        have H' := Aside0.mk H
        clear H
        have hnb42 := NB112_113.out
        have hnc42 := NB113_112.out
        have hcz43_0 : wc.cell? ⟨gb112, 0, none⟩ = some (.int .i64 a0_0) := (blk_cell BK112.out 0).trans rfl
        have hcz43_1 : wc.cell? ⟨gb112, 1, none⟩ = some (.int .i64 a0_1) := (blk_cell BK112.out 1).trans rfl
        have hcz43_2 : wc.cell? ⟨gb112, 2, none⟩ = some (.slice A0_2 l0_2.length c0_2) := (blk_cell BK112.out 2).trans rfl
        have hfz43_0 := blk_frozen BK112.out 0
        have hfz43_1 := blk_frozen BK112.out 1
        have hfz43_2 := blk_frozen BK112.out 2
        go_wp2
        repeat (go_quiet (fail); try go_wp2)
        go_loopg [41] kj2 (fun kq v41 w' => ∃ (x41_2 : Int), v41 = .int .i64 x41_2 ∧ Aside0 (virgationref11_Same.l0 kq (l0_2.length : Int) x41_2 a0_0 a0_1 l0_2 a1_0 a1_1 l1_2 = some r) ∧ Aside0 (kq ≤ kj2) ∧ Aside0 (w'.heap[gb112]? = some (.cells #[.int .i64 a0_0, .int .i64 a0_1, (.slice A0_2 l0_2.length c0_2)] 24 (0, 0))) ∧ Aside0 (w'.heap[gb113]? = some (.cells #[.int .i64 a1_0, .int .i64 a1_1, (.slice A1_2 l1_2.length c1_2)] 24 (0, 0))) ∧ Aside0 (Below w.heap.size w w'))
        case atStart => exact ⟨(0), (by first | rfl | (simp; done) | (simp [*]; done)), H', ⟨Nat.le_refl _⟩, ⟨by (with_reducible repeat (first | refine blk_drewN ?_ _ | refine blk_drew ?_ | refine blk_alloc ?_ _)); exact BK112.out⟩, ⟨by (with_reducible repeat (first | refine blk_drewN ?_ _ | refine blk_drew ?_ | refine blk_alloc ?_ _)); exact BK113.out⟩, ⟨by repeat (first | (with_reducible first | exact HB.out | apply below_alloc | apply pw_below_drewN | apply below_drew1 | refine below_set ?_ GE112.out | refine below_set ?_ GE113.out) | exact HB.out)⟩⟩
        case round =>
          clear H'
          try clear c1
          try clear c2
          try clear p2
          try clear c3
          try clear c4
          try clear c7
          try clear c9
          try clear c10
          try clear c10b0
          try clear c10b1
          try clear c11
          try clear c11b0
          try clear c11b1
          try clear c12
          try clear c19
          try clear c21
          try clear c26
          try clear c33
          try clear c38
          try clear c41
          try clear c42
          try clear hcz13_0
          try clear hcz13_1
          try clear hcz13_2
          try clear hcz15_0
          try clear hcz15_1
          try clear hcz15_2
          try clear hcz17_0
          try clear hcz17_1
          try clear hcz17_2
          try clear hcz18_0
          try clear hcz18_1
          try clear hcz18_2
          try clear hcz20_0
          try clear hcz20_1
          try clear hcz20_2
          try clear hcz22_0
          try clear hcz22_1
          try clear hcz22_2
          try clear hcz24_0
          try clear hcz24_1
          try clear hcz24_2
          try clear hcz25_0
          try clear hcz25_1
          try clear hcz25_2
          try clear hcz27_0
          try clear hcz27_1
          try clear hcz27_2
          try clear hcz29_0
          try clear hcz29_1
          try clear hcz29_2
          try clear hcz31_0
          try clear hcz31_1
          try clear hcz31_2
          try clear hcz32_0
          try clear hcz32_1
          try clear hcz32_2
          try clear hcz34_0
          try clear hcz34_1
          try clear hcz34_2
          try clear hcz36_0
          try clear hcz36_1
          try clear hcz36_2
          try clear hcz39_0
          try clear hcz39_1
          try clear hcz39_2
          try clear hcz43_0
          try clear hcz43_1
          try clear hcz43_2
          try clear hfz13_0
          try clear hfz13_1
          try clear hfz13_2
          try clear hfz15_0
          try clear hfz15_1
          try clear hfz15_2
          try clear hfz17_0
          try clear hfz17_1
          try clear hfz17_2
          try clear hfz18_0
          try clear hfz18_1
          try clear hfz18_2
          try clear hfz20_0
          try clear hfz20_1
          try clear hfz20_2
          try clear hfz22_0
          try clear hfz22_1
          try clear hfz22_2
          try clear hfz24_0
          try clear hfz24_1
          try clear hfz24_2
          try clear hfz25_0
          try clear hfz25_1
          try clear hfz25_2
          try clear hfz27_0
          try clear hfz27_1
          try clear hfz27_2
          try clear hfz29_0
          try clear hfz29_1
          try clear hfz29_2
          try clear hfz31_0
          try clear hfz31_1
          try clear hfz31_2
          try clear hfz32_0
          try clear hfz32_1
          try clear hfz32_2
          try clear hfz34_0
          try clear hfz34_1
          try clear hfz34_2
          try clear hfz36_0
          try clear hfz36_1
          try clear hfz36_2
          try clear hfz39_0
          try clear hfz39_1
          try clear hfz39_2
          try clear hfz43_0
          try clear hfz43_1
          try clear hfz43_2
          try clear p2
          obtain ⟨x41_2, rfl, HA, HK2, BK112, BK113, HB⟩ := hrel
          cases gk with
          | zero => exact absurd HA.out (by simp [virgationref11_Same.l0])
          | succ k2 =>
            have H := HA.out
            clear HA
            simp only [virgationref11_Same.l0] at H
            by_cases c44 : x41_2 < (l0_2.length : Int)
            · rw [if_pos c44] at H
              have c44b0 : decide (x41_2 < (l0_2.length : Int)) = true := decide_eq_true c44
              clear c44
              by_cases c45 : 0 ≤ x41_2
              · rw [if_pos c45] at H
                have c45b0 : decide (0 ≤ x41_2) = true := decide_eq_true c45
                clear c45
                by_cases c46 : x41_2 < (l0_2.length : Int)
                · rw [if_pos c46] at H
                  have c46b0 : decide (x41_2 < (l0_2.length : Int)) = true := decide_eq_true c46
                  clear c46
                  have H' := Aside0.mk H
                  clear H
                  have hnb47 := NB112_113.out
                  have hnc47 := NB113_112.out
                  have hcz48_0 : wr.cell? ⟨gb112, 0, none⟩ = some (.int .i64 a0_0) := (blk_cell BK112.out 0).trans rfl
                  have hcz48_1 : wr.cell? ⟨gb112, 1, none⟩ = some (.int .i64 a0_1) := (blk_cell BK112.out 1).trans rfl
                  have hcz48_2 : wr.cell? ⟨gb112, 2, none⟩ = some (.slice A0_2 l0_2.length c0_2) := (blk_cell BK112.out 2).trans rfl
                  have hfz48_0 := blk_frozen BK112.out 0
                  have hfz48_1 := blk_frozen BK112.out 1
                  have hfz48_2 := blk_frozen BK112.out 2
                  have p116 : 0 ≤ (x41_2 : Int) := of_decide_eq_true (by first | (with_reducible assumption) | assumption)
                  have q116 : x41_2 < (l0_2.length : Int) := of_decide_eq_true (by first | (with_reducible assumption) | assumption)
                  obtain ⟨ad116, A116_0, c116_0, e116, hx116_0, hl116_0, hi116_0⟩ := at_L1 HR0_2.out x41_2 p116 q116
                  cases e116
                  replace hx116_0 := (HB.out.cell (World.block_lt_of_cell? w _ hx116_0)).trans hx116_0
                  have HR116_0 := Aside0.mk hi116_0
                  have HC116_0 := Aside0.mk hl116_0
                  clear hi116_0 hl116_0
                  replace p116 := eq_true p116
                  replace q116 := eq_true q116
                  go_wp2
                  repeat (go_quiet (fail); try go_wp2)
                  go_loopg [50] k2 (fun kq v50 w' => ∃ (x50_3 : Int), v50 = .int .i64 x50_3 ∧ Aside0 (virgationref11_Same.l1 kq x41_2 (l0_2.length : Int) x41_2 ((rd_L1 l0_2 x41_2).length : Int) x50_3 a0_0 a0_1 l0_2 a1_0 a1_1 l1_2 = some r) ∧ Aside0 (kq ≤ k2) ∧ Aside0 (w'.heap[gb112]? = some (.cells #[.int .i64 a0_0, .int .i64 a0_1, (.slice (some ad116) l0_2.length c0_2)] 24 (0, 0))) ∧ Aside0 (w'.heap[gb113]? = some (.cells #[.int .i64 a1_0, .int .i64 a1_1, (.slice A1_2 l1_2.length c1_2)] 24 (0, 0))) ∧ Aside0 (Below w.heap.size w w'))
                  case atStart => exact ⟨(0), (by first | rfl | (simp; done) | (simp [*]; done)), H', ⟨Nat.le_refl _⟩, ⟨by (with_reducible repeat (first | refine blk_drewN ?_ _ | refine blk_drew ?_ | refine blk_alloc ?_ _)); exact BK112.out⟩, ⟨by (with_reducible repeat (first | refine blk_drewN ?_ _ | refine blk_drew ?_ | refine blk_alloc ?_ _)); exact BK113.out⟩, ⟨by repeat (first | (with_reducible first | exact HB.out | apply below_alloc | apply pw_below_drewN | apply below_drew1 | refine below_set ?_ GE112.out | refine below_set ?_ GE113.out) | exact HB.out)⟩⟩
                  case round =>
                    clear H'
                    try clear c1
                    try clear p1
                    try clear q1
                    try clear hx1
                    try clear c2
                    try clear p2
                    try clear c3
                    try clear c4
                    try clear c7
                    try clear c9
                    try clear c10
                    try clear c10b0
                    try clear c10b1
                    try clear c11
                    try clear c11b0
                    try clear c11b1
                    try clear p11
                    try clear q11
                    try clear hx11
                    try clear c12
                    try clear c19
                    try clear c21
                    try clear c26
                    try clear c33
                    try clear c38
                    try clear c41
                    try clear c42
                    try clear c44
                    try clear c44b0
                    try clear c45
                    try clear c45b0
                    try clear c46
                    try clear c46b0
                    try clear c47
                    try clear hcz13_0
                    try clear hcz13_1
                    try clear hcz13_2
                    try clear hcz15_0
                    try clear hcz15_1
                    try clear hcz15_2
                    try clear hcz17_0
                    try clear hcz17_1
                    try clear hcz17_2
                    try clear hcz18_0
                    try clear hcz18_1
                    try clear hcz18_2
                    try clear hcz20_0
                    try clear hcz20_1
                    try clear hcz20_2
                    try clear hcz22_0
                    try clear hcz22_1
                    try clear hcz22_2
                    try clear hcz24_0
                    try clear hcz24_1
                    try clear hcz24_2
                    try clear hcz25_0
                    try clear hcz25_1
                    try clear hcz25_2
                    try clear hcz27_0
                    try clear hcz27_1
                    try clear hcz27_2
                    try clear hcz29_0
                    try clear hcz29_1
                    try clear hcz29_2
                    try clear hcz31_0
                    try clear hcz31_1
                    try clear hcz31_2
                    try clear hcz32_0
                    try clear hcz32_1
                    try clear hcz32_2
                    try clear hcz34_0
                    try clear hcz34_1
                    try clear hcz34_2
                    try clear hcz36_0
                    try clear hcz36_1
                    try clear hcz36_2
                    try clear hcz39_0
                    try clear hcz39_1
                    try clear hcz39_2
                    try clear hcz43_0
                    try clear hcz43_1
                    try clear hcz43_2
                    try clear hcz48_0
                    try clear hcz48_1
                    try clear hcz48_2
                    try clear hfz13_0
                    try clear hfz13_1
                    try clear hfz13_2
                    try clear hfz15_0
                    try clear hfz15_1
                    try clear hfz15_2
                    try clear hfz17_0
                    try clear hfz17_1
                    try clear hfz17_2
                    try clear hfz18_0
                    try clear hfz18_1
                    try clear hfz18_2
                    try clear hfz20_0
                    try clear hfz20_1
                    try clear hfz20_2
                    try clear hfz22_0
                    try clear hfz22_1
                    try clear hfz22_2
                    try clear hfz24_0
                    try clear hfz24_1
                    try clear hfz24_2
                    try clear hfz25_0
                    try clear hfz25_1
                    try clear hfz25_2
                    try clear hfz27_0
                    try clear hfz27_1
                    try clear hfz27_2
                    try clear hfz29_0
                    try clear hfz29_1
                    try clear hfz29_2
                    try clear hfz31_0
                    try clear hfz31_1
                    try clear hfz31_2
                    try clear hfz32_0
                    try clear hfz32_1
                    try clear hfz32_2
                    try clear hfz34_0
                    try clear hfz34_1
                    try clear hfz34_2
                    try clear hfz36_0
                    try clear hfz36_1
                    try clear hfz36_2
                    try clear hfz39_0
                    try clear hfz39_1
                    try clear hfz39_2
                    try clear hfz43_0
                    try clear hfz43_1
                    try clear hfz43_2
                    try clear hfz48_0
                    try clear hfz48_1
                    try clear hfz48_2
                    try clear hx116_0
                    try clear p116
                    try clear p2
                    try clear q116
                    obtain ⟨x50_3, rfl, HA, HK3, BK112, BK113, HB⟩ := hrel
                    cases gk with
                    | zero => exact absurd HA.out (by simp [virgationref11_Same.l1])
                    | succ k3 =>
                      have H := HA.out
                      clear HA
                      simp only [virgationref11_Same.l1] at H
                      by_cases c49 : x50_3 < ((rd_L1 l0_2 x41_2).length : Int)
                      · rw [if_pos c49] at H
                        have c49b0 : decide (x50_3 < ((rd_L1 l0_2 x41_2).length : Int)) = true := decide_eq_true c49
                        clear c49
                        by_cases c50 : 0 ≤ x41_2
                        · rw [if_pos c50] at H
                          have c50b0 : decide (0 ≤ x41_2) = true := decide_eq_true c50
                          clear c50
                          by_cases c51 : x41_2 < (l0_2.length : Int)
                          · rw [if_pos c51] at H
                            have c51b0 : decide (x41_2 < (l0_2.length : Int)) = true := decide_eq_true c51
                            clear c51
                            by_cases c52 : 0 ≤ x50_3
                            · rw [if_pos c52] at H
                              have c52b0 : decide (0 ≤ x50_3) = true := decide_eq_true c52
                              clear c52
                              by_cases c53 : x50_3 < ((rd_L1 l0_2 x41_2).length : Int)
                              · rw [if_pos c53] at H
                                have c53b0 : decide (x50_3 < ((rd_L1 l0_2 x41_2).length : Int)) = true := decide_eq_true c53
                                clear c53
                                by_cases c54 : x41_2 < (l1_2.length : Int)
                                · rw [if_pos c54] at H
                                  have c54b0 : decide (x41_2 < (l1_2.length : Int)) = true := decide_eq_true c54
                                  clear c54
                                  by_cases c55 : x50_3 < ((rd_L1 l1_2 x41_2).length : Int)
                                  · rw [if_pos c55] at H
                                    have c55b0 : decide (x50_3 < ((rd_L1 l1_2 x41_2).length : Int)) = true := decide_eq_true c55
                                    clear c55
                                    by_cases c56 : (rd (rd_L1 l0_2 x41_2) x50_3) = (rd (rd_L1 l1_2 x41_2) x50_3)
                                    · rw [if_pos c56] at H
                                      have c56b0 : ((rd (rd_L1 l0_2 x41_2) x50_3) == (rd (rd_L1 l1_2 x41_2) x50_3)) = true := beq_iff_eq.mpr c56
                                      have c56b1 : ((rd (rd_L1 l0_2 x41_2) x50_3) != (rd (rd_L1 l1_2 x41_2) x50_3)) = false := bne_eq_false_iff_eq.mpr c56
                                      clear c56
                                      have H' := Aside0.mk H
                                      clear H
                                      have hnb57 := NB112_113.out
                                      have hnc57 := NB113_112.out
                                      have hcz58_0 : wr.cell? ⟨gb112, 0, none⟩ = some (.int .i64 a0_0) := (blk_cell BK112.out 0).trans rfl
                                      have hcz58_1 : wr.cell? ⟨gb112, 1, none⟩ = some (.int .i64 a0_1) := (blk_cell BK112.out 1).trans rfl
                                      have hcz58_2 : wr.cell? ⟨gb112, 2, none⟩ = some (.slice (some ad116) l0_2.length c0_2) := (blk_cell BK112.out 2).trans rfl
                                      have hfz58_0 := blk_frozen BK112.out 0
                                      have hfz58_1 := blk_frozen BK112.out 1
                                      have hfz58_2 := blk_frozen BK112.out 2
                                      have p117 : 0 ≤ (x41_2 : Int) := of_decide_eq_true (by first | (with_reducible assumption) | assumption)
                                      have q117 : x41_2 < (l0_2.length : Int) := of_decide_eq_true (by first | (with_reducible assumption) | assumption)
                                      obtain ⟨ad117, A117_0, c117_0, e117, hx117_0, hl117_0, hi117_0⟩ := at_L1 HR0_2.out x41_2 p117 q117
                                      obtain rfl : ad116 = ad117 := (by injection e117)
                                      replace hx117_0 := (HB.out.cell (World.block_lt_of_cell? w _ hx117_0)).trans hx117_0
                                      have HR117_0 := Aside0.mk hi117_0
                                      have HC117_0 := Aside0.mk hl117_0
                                      clear hi117_0 hl117_0
                                      replace p117 := eq_true p117
                                      replace q117 := eq_true q117
                                      have p118 : 0 ≤ (x50_3 : Int) := of_decide_eq_true (by first | (with_reducible assumption) | assumption)
                                      have q118 : x50_3 < ((rd_L1 l0_2 x41_2).length : Int) := of_decide_eq_true (by first | (with_reducible assumption) | assumption)
                                      obtain ⟨ad118, e118, hx118_0⟩ := Kd.at_int HR117_0.out x50_3 p118 q118
                                      cases e118
                                      replace hx118_0 := (HB.out.cell (World.block_lt_of_cell? w _ hx118_0)).trans hx118_0
                                      replace p118 := eq_true p118
                                      replace q118 := eq_true q118
                                      have hcz59_0 : wr.cell? ⟨gb113, 0, none⟩ = some (.int .i64 a1_0) := (blk_cell BK113.out 0).trans rfl
                                      have hcz59_1 : wr.cell? ⟨gb113, 1, none⟩ = some (.int .i64 a1_1) := (blk_cell BK113.out 1).trans rfl
                                      have hcz59_2 : wr.cell? ⟨gb113, 2, none⟩ = some (.slice A1_2 l1_2.length c1_2) := (blk_cell BK113.out 2).trans rfl
                                      have hfz59_0 := blk_frozen BK113.out 0
                                      have hfz59_1 := blk_frozen BK113.out 1
                                      have hfz59_2 := blk_frozen BK113.out 2
                                      have p119 : 0 ≤ (x41_2 : Int) := of_decide_eq_true (by first | (with_reducible assumption) | assumption)
                                      have q119 : x41_2 < (l1_2.length : Int) := of_decide_eq_true (by first | (with_reducible assumption) | assumption)
                                      obtain ⟨ad119, A119_0, c119_0, e119, hx119_0, hl119_0, hi119_0⟩ := at_L1 HR1_2.out x41_2 p119 q119
                                      cases e119
                                      replace hx119_0 := (HB.out.cell (World.block_lt_of_cell? w _ hx119_0)).trans hx119_0
                                      have HR119_0 := Aside0.mk hi119_0
                                      have HC119_0 := Aside0.mk hl119_0
                                      clear hi119_0 hl119_0
                                      replace p119 := eq_true p119
                                      replace q119 := eq_true q119
                                      have p120 : 0 ≤ (x50_3 : Int) := of_decide_eq_true (by first | (with_reducible assumption) | assumption)
                                      have q120 : x50_3 < ((rd_L1 l1_2 x41_2).length : Int) := of_decide_eq_true (by first | (with_reducible assumption) | assumption)
                                      obtain ⟨ad120, e120, hx120_0⟩ := Kd.at_int HR119_0.out x50_3 p120 q120
                                      cases e120
                                      replace hx120_0 := (HB.out.cell (World.block_lt_of_cell? w _ hx120_0)).trans hx120_0
                                      replace p120 := eq_true p120
                                      replace q120 := eq_true q120
                                      go_wp2
                                      repeat (go_quiet (fail); try go_wp2)
                                      go_roundg k3
                                      case measure => have := HJ2.out; have := HK2.out; have := HK3.out; omega
                                      case rel => exact ⟨(wrap64 (x50_3 + 1)), (by first | rfl | (simp; done) | (simp [*]; done)), H', ⟨by have := HJ2.out; have := HK2.out; have := HK3.out; omega⟩, ⟨by (with_reducible repeat (first | refine blk_drewN ?_ _ | refine blk_drew ?_ | refine blk_alloc ?_ _)); exact BK112.out⟩, ⟨by (with_reducible repeat (first | refine blk_drewN ?_ _ | refine blk_drew ?_ | refine blk_alloc ?_ _)); exact BK113.out⟩, ⟨by repeat (first | (with_reducible first | exact HB.out | apply below_alloc | apply pw_below_drewN | apply below_drew1 | refine below_set ?_ GE112.out | refine below_set ?_ GE113.out) | exact HB.out)⟩⟩
                                    · rw [if_neg c56] at H
                                      have c56b0 : ((rd (rd_L1 l0_2 x41_2) x50_3) == (rd (rd_L1 l1_2 x41_2) x50_3)) = false := beq_eq_false_iff_ne.mpr c56
                                      have c56b1 : ((rd (rd_L1 l0_2 x41_2) x50_3) != (rd (rd_L1 l1_2 x41_2) x50_3)) = true := bne_iff_ne.mpr c56
                                      obtain rfl := Option.some.inj H
                                      have hnb60 := NB112_113.out
                                      have hnc60 := NB113_112.out
                                      have hcz61_0 : wr.cell? ⟨gb112, 0, none⟩ = some (.int .i64 a0_0) := (blk_cell BK112.out 0).trans rfl
                                      have hcz61_1 : wr.cell? ⟨gb112, 1, none⟩ = some (.int .i64 a0_1) := (blk_cell BK112.out 1).trans rfl
                                      have hcz61_2 : wr.cell? ⟨gb112, 2, none⟩ = some (.slice (some ad116) l0_2.length c0_2) := (blk_cell BK112.out 2).trans rfl
                                      have hfz61_0 := blk_frozen BK112.out 0
                                      have hfz61_1 := blk_frozen BK112.out 1
                                      have hfz61_2 := blk_frozen BK112.out 2
                                      have p117 : 0 ≤ (x41_2 : Int) := of_decide_eq_true (by first | (with_reducible assumption) | assumption)
                                      have q117 : x41_2 < (l0_2.length : Int) := of_decide_eq_true (by first | (with_reducible assumption) | assumption)
                                      obtain ⟨ad117, A117_0, c117_0, e117, hx117_0, hl117_0, hi117_0⟩ := at_L1 HR0_2.out x41_2 p117 q117
                                      obtain rfl : ad116 = ad117 := (by injection e117)
                                      replace hx117_0 := (HB.out.cell (World.block_lt_of_cell? w _ hx117_0)).trans hx117_0
                                      have HR117_0 := Aside0.mk hi117_0
                                      have HC117_0 := Aside0.mk hl117_0
                                      clear hi117_0 hl117_0
                                      replace p117 := eq_true p117
                                      replace q117 := eq_true q117
                                      have p118 : 0 ≤ (x50_3 : Int) := of_decide_eq_true (by first | (with_reducible assumption) | assumption)
                                      have q118 : x50_3 < ((rd_L1 l0_2 x41_2).length : Int) := of_decide_eq_true (by first | (with_reducible assumption) | assumption)
                                      obtain ⟨ad118, e118, hx118_0⟩ := Kd.at_int HR117_0.out x50_3 p118 q118
                                      cases e118
                                      replace hx118_0 := (HB.out.cell (World.block_lt_of_cell? w _ hx118_0)).trans hx118_0
                                      replace p118 := eq_true p118
                                      replace q118 := eq_true q118
                                      have hcz62_0 : wr.cell? ⟨gb113, 0, none⟩ = some (.int .i64 a1_0) := (blk_cell BK113.out 0).trans rfl
                                      have hcz62_1 : wr.cell? ⟨gb113, 1, none⟩ = some (.int .i64 a1_1) := (blk_cell BK113.out 1).trans rfl
                                      have hcz62_2 : wr.cell? ⟨gb113, 2, none⟩ = some (.slice A1_2 l1_2.length c1_2) := (blk_cell BK113.out 2).trans rfl
                                      have hfz62_0 := blk_frozen BK113.out 0
                                      have hfz62_1 := blk_frozen BK113.out 1
                                      have hfz62_2 := blk_frozen BK113.out 2
                                      have p119 : 0 ≤ (x41_2 : Int) := of_decide_eq_true (by first | (with_reducible assumption) | assumption)
                                      have q119 : x41_2 < (l1_2.length : Int) := of_decide_eq_true (by first | (with_reducible assumption) | assumption)
                                      obtain ⟨ad119, A119_0, c119_0, e119, hx119_0, hl119_0, hi119_0⟩ := at_L1 HR1_2.out x41_2 p119 q119
                                      cases e119
                                      replace hx119_0 := (HB.out.cell (World.block_lt_of_cell? w _ hx119_0)).trans hx119_0
                                      have HR119_0 := Aside0.mk hi119_0
                                      have HC119_0 := Aside0.mk hl119_0
                                      clear hi119_0 hl119_0
                                      replace p119 := eq_true p119
                                      replace q119 := eq_true q119
                                      have p120 : 0 ≤ (x50_3 : Int) := of_decide_eq_true (by first | (with_reducible assumption) | assumption)
                                      have q120 : x50_3 < ((rd_L1 l1_2 x41_2).length : Int) := of_decide_eq_true (by first | (with_reducible assumption) | assumption)
                                      obtain ⟨ad120, e120, hx120_0⟩ := Kd.at_int HR119_0.out x50_3 p120 q120
                                      cases e120
                                      replace hx120_0 := (HB.out.cell (World.block_lt_of_cell? w _ hx120_0)).trans hx120_0
                                      replace p120 := eq_true p120
                                      replace q120 := eq_true q120
                                      go_wp2
                                      repeat (go_quiet (fail); try go_wp2)
                                      go_ret
                                      exact ⟨by first | rfl | (simp [errW_none, errW_some] <;> rfl) | (simp [*, errW_none, errW_some] <;> rfl), by repeat (first | (with_reducible first | exact HB.out | apply below_alloc | apply pw_below_drewN | apply below_drew1 | refine below_set ?_ GE112.out | refine below_set ?_ GE113.out) | exact HB.out)⟩
                                  · rw [if_neg c55] at H
                                    exact absurd H (by simp)
                                · rw [if_neg c54] at H
                                  exact absurd H (by simp)
                              · rw [if_neg c53] at H
                                exact absurd H (by simp)
                            · rw [if_neg c52] at H
                              exact absurd H (by simp)
                          · rw [if_neg c51] at H
                            exact absurd H (by simp)
                        · rw [if_neg c50] at H
                          exact absurd H (by simp)
                      · rw [if_neg c49] at H
                        have c49b0 : decide (x50_3 < ((rd_L1 l0_2 x41_2).length : Int)) = false := decide_eq_false c49
                        clear c49
                        have H' := Aside0.mk H
                        clear H
                        go_wp2
                        repeat (go_quiet (fail); try go_wp2)
                        go_roundg k3
                        case measure => have := HJ2.out; have := HK2.out; have := HK3.out; omega
                        case rel => exact ⟨(wrap64 (x41_2 + 1)), (by first | rfl | (simp; done) | (simp [*]; done)), H', ⟨by have := HJ2.out; have := HK2.out; have := HK3.out; omega⟩, ⟨by (with_reducible repeat (first | refine blk_drewN ?_ _ | refine blk_drew ?_ | refine blk_alloc ?_ _)); exact BK112.out⟩, ⟨by (with_reducible repeat (first | refine blk_drewN ?_ _ | refine blk_drew ?_ | refine blk_alloc ?_ _)); exact BK113.out⟩, ⟨by repeat (first | (with_reducible first | exact HB.out | apply below_alloc | apply pw_below_drewN | apply below_drew1 | refine below_set ?_ GE112.out | refine below_set ?_ GE113.out) | exact HB.out)⟩⟩
                · rw [if_neg c46] at H
                  exact absurd H (by simp)
              · rw [if_neg c45] at H
                exact absurd H (by simp)
            · rw [if_neg c44] at H
              have c44b0 : decide (x41_2 < (l0_2.length : Int)) = false := decide_eq_false c44
              clear c44
              obtain rfl := Option.some.inj H
              go_wp2
              repeat (go_quiet (fail); try go_wp2)
              go_ret
              exact ⟨by first | rfl | (simp [errW_none, errW_some] <;> rfl) | (simp [*, errW_none, errW_some] <;> rfl), by repeat (first | (with_reducible first | exact HB.out | apply below_alloc | apply pw_below_drewN | apply below_drew1 | refine below_set ?_ GE112.out | refine below_set ?_ GE113.out) | exact HB.out)⟩
end Go.Proofs.Ytmphigeefppfpaa.Q
namespace Go.Proofs.Ytmphigeefppfpaa.Q
open Go.RowKit Go.Proofs.YtmphigeefppfpaaW.PrintWords Go.Proofs.YtmphigeefppfpaaW.PrintLast Go.Proofs.YtmphigeefppfpaaW.PrintMore
attribute [local go_sem] max2_int min2_int max_two min_two max_three min_three max_four min_four
set_option linter.unusedVariables false
set_option linter.unusedSimpArgs false
def spec_next.f (a0_0 : Int) (a0_1 : Int) (l0_2 : List (List Int)) (a1 : Int) (a2 : Int) : Option (Int) := if a1 < 0 then (some (-1)) else (if 0 ≤ a1 then (if a1 < (l0_2.length : Int) then (if 0 ≤ a2 then (if a2 < ((rd_L1 l0_2 a1).length : Int) then (some (rd (rd_L1 l0_2 a1) a2)) else (none)) else (none)) else (none)) else (none))
set_option maxHeartbeats 8000000 in
set_option maxRecDepth 100000 in
theorem spec_next.calls (a0_0 : Int) (a0_1 : Int) (A0_2 : Option Addr) (c0_2 : Nat) (l0_2 : List (List Int)) (a1 : Int) (a2 : Int) (r : Int) (w : World) (hr0_2 : Kd.C (Kd.slice 3 (Kd.int .i64)) w A0_2 l0_2.length l0_2) (hc0_2 : l0_2.length ≤ c0_2) (h : spec_next.f a0_0 a0_1 l0_2 a1 a2 = some r) :
    Calls Try.prog 44 #[.agg #[.int .i64 a0_0, .int .i64 a0_1, .slice A0_2 l0_2.length c0_2], .int .i64 a1, .int .i64 a2] w fun e w' => e = .returned (.int .i64 r) ∧ Below w.heap.size w w' := by
  have hu24 := Try.underlying24
  have HR0_2 := Aside0.mk hr0_2
  have HC0_2 := Aside0.mk hc0_2
  clear hr0_2 hc0_2
  have HB := Aside0.mk (Below.refl w.heap.size w)
  have H : (if a1 < 0 then (some (-1)) else (if 0 ≤ a1 then (if a1 < (l0_2.length : Int) then (if 0 ≤ a2 then (if a2 < ((rd_L1 l0_2 a1).length : Int) then (some (rd (rd_L1 l0_2 a1) a2)) else (none)) else (none)) else (none)) else (none))) = some r := h
  clear h
  by_cases c4 : a1 < 0
  · rw [if_pos c4] at H
    have c4b0 : decide (a1 < 0) = true := decide_eq_true c4
    clear c4
    obtain rfl := Option.some.inj H
    go_enter Try.func44, Try.ntmps44
    go_wp2_with (first | ((with_reducible refine gate_dst (N := 3) rfl ?_); refine box_event ?hg (N := 3) ?hd (cs := #[.int .i64 a0_0, .int .i64 a0_1, .slice A0_2 l0_2.length c0_2]) (t := 24) ?hr ?_; (case hd => rfl); (case hg => rfl); (case hr => first | (go_simp; done) | (go_simp; rfl)); intro gb130 hg w5 hbox hb; have n0_ := Aside0.mk (below_step (by repeat (first | (with_reducible first | exact HB.out | apply below_alloc | apply pw_below_drewN | apply below_drew1) | exact HB.out)) hb); have n1_ := Aside0.mk (hbox); have n2_ := Aside0.mk ((by rw [hg]; exact (below_size (by repeat (first | (with_reducible first | exact HB.out | apply below_alloc | apply pw_below_drewN | apply below_drew1) | exact HB.out))) : w.heap.size ≤ gb130)); have n3_ := Aside0.mk ((by rw [hg]; exact (below_size (by repeat (first | (with_reducible first | exact HB.out | apply below_alloc | apply pw_below_drewN | apply below_drew1) | exact HB.out))) : w.heap.size ≤ gb130)); clear HB; have HB := n0_; have BK130 := n1_; have GW130 := n2_; have GE130 := n3_; clear n0_ n1_ n2_ n3_; clear hb hbox hg))
    go_ret
    exact ⟨by first | rfl | (simp [errW_none, errW_some] <;> rfl) | (simp [*, errW_none, errW_some] <;> rfl), by repeat (first | (with_reducible first | exact HB.out | apply below_alloc | apply pw_below_drewN | apply below_drew1 | refine below_set ?_ GE130.out) | exact HB.out)⟩
  · rw [if_neg c4] at H
    have c4b0 : decide (a1 < 0) = false := decide_eq_false c4
    clear c4
    by_cases c6 : 0 ≤ a1
    · rw [if_pos c6] at H
      have c6b0 : decide (0 ≤ a1) = true := decide_eq_true c6
      clear c6
      by_cases c7 : a1 < (l0_2.length : Int)
      · rw [if_pos c7] at H
        have c7b0 : decide (a1 < (l0_2.length : Int)) = true := decide_eq_true c7
        clear c7
        by_cases c8 : 0 ≤ a2
        · rw [if_pos c8] at H
          have c8b0 : decide (0 ≤ a2) = true := decide_eq_true c8
          clear c8
          by_cases c9 : a2 < ((rd_L1 l0_2 a1).length : Int)
          · rw [if_pos c9] at H
            have c9b0 : decide (a2 < ((rd_L1 l0_2 a1).length : Int)) = true := decide_eq_true c9
            clear c9
            obtain rfl := Option.some.inj H
            go_enter Try.func44, Try.ntmps44
            go_wp2_with (first | ((with_reducible refine gate_dst (N := 3) rfl ?_); refine box_event ?hg (N := 3) ?hd (cs := #[.int .i64 a0_0, .int .i64 a0_1, .slice A0_2 l0_2.length c0_2]) (t := 24) ?hr ?_; (case hd => rfl); (case hg => rfl); (case hr => first | (go_simp; done) | (go_simp; rfl)); intro gb130 hg w10 hbox hb; have n0_ := Aside0.mk (below_step (by repeat (first | (with_reducible first | exact HB.out | apply below_alloc | apply pw_below_drewN | apply below_drew1) | exact HB.out)) hb); have n1_ := Aside0.mk (hbox); have n2_ := Aside0.mk ((by rw [hg]; exact (below_size (by repeat (first | (with_reducible first | exact HB.out | apply below_alloc | apply pw_below_drewN | apply below_drew1) | exact HB.out))) : w.heap.size ≤ gb130)); have n3_ := Aside0.mk ((by rw [hg]; exact (below_size (by repeat (first | (with_reducible first | exact HB.out | apply below_alloc | apply pw_below_drewN | apply below_drew1) | exact HB.out))) : w.heap.size ≤ gb130)); clear HB; have HB := n0_; have BK130 := n1_; have GW130 := n2_; have GE130 := n3_; clear n0_ n1_ n2_ n3_; clear hb hbox hg; have hcz11_0 : w10.cell? ⟨gb130, 0, none⟩ = some (.int .i64 a0_0) := (blk_cell BK130.out 0).trans rfl; have hcz11_1 : w10.cell? ⟨gb130, 1, none⟩ = some (.int .i64 a0_1) := (blk_cell BK130.out 1).trans rfl; have hcz11_2 : w10.cell? ⟨gb130, 2, none⟩ = some (.slice A0_2 l0_2.length c0_2) := (blk_cell BK130.out 2).trans rfl; have hfz11_0 := blk_frozen BK130.out 0; have hfz11_1 := blk_frozen BK130.out 1; have hfz11_2 := blk_frozen BK130.out 2; have p131 : 0 ≤ (a1 : Int) := of_decide_eq_true (by first | (with_reducible assumption) | assumption); have q131 : a1 < (l0_2.length : Int) := of_decide_eq_true (by first | (with_reducible assumption) | assumption); obtain ⟨ad131, A131_0, c131_0, e131, hx131_0, hl131_0, hi131_0⟩ := at_L1 HR0_2.out a1 p131 q131; cases e131; replace hx131_0 := (HB.out.cell (World.block_lt_of_cell? w _ hx131_0)).trans hx131_0; have HR131_0 := Aside0.mk hi131_0; have HC131_0 := Aside0.mk hl131_0; clear hi131_0 hl131_0; replace p131 := eq_true p131; replace q131 := eq_true q131; have p132 : 0 ≤ (a2 : Int) := of_decide_eq_true (by first | (with_reducible assumption) | assumption); have q132 : a2 < ((rd_L1 l0_2 a1).length : Int) := of_decide_eq_true (by first | (with_reducible assumption) | assumption); obtain ⟨ad132, e132, hx132_0⟩ := Kd.at_int HR131_0.out a2 p132 q132; cases e132; replace hx132_0 := (HB.out.cell (World.block_lt_of_cell? w _ hx132_0)).trans hx132_0; replace p132 := eq_true p132; replace q132 := eq_true q132))
            go_ret
            exact ⟨by first | rfl | (simp [errW_none, errW_some] <;> rfl) | (simp [*, errW_none, errW_some] <;> rfl), by repeat (first | (with_reducible first | exact HB.out | apply below_alloc | apply pw_below_drewN | apply below_drew1 | refine below_set ?_ GE130.out) | exact HB.out)⟩
          · rw [if_neg c9] at H
            exact absurd H (by simp)
        · rw [if_neg c8] at H
          exact absurd H (by simp)
      · rw [if_neg c7] at H
        exact absurd H (by simp)
    · rw [if_neg c6] at H
      exact absurd H (by simp)
def virgationlaw11_ints.l0 : Nat → List Int → List Int → Int → Int → Option (Bool)
  | 0, _, _, _, _ => none
  | k + 1, x0, x1, x12, x13 => if x13 < x12 then (if 0 ≤ x13 then (if x13 < (x0.length : Int) then (if x13 < (x1.length : Int) then (if (rd x0 x13) = (rd x1 x13) then (virgationlaw11_ints.l0 k x0 x1 x12 (wrap64 (x13 + 1))) else (some false)) else (none)) else (none)) else (none)) else (some true)
def virgationlaw11_ints.f (k : Nat) (l0 : List Int) (l1 : List Int) : Option (Bool) := if (l0.length : Int) = (l1.length : Int) then (virgationlaw11_ints.l0 k l0 l1 (l0.length : Int) 0) else (some false)
set_option maxHeartbeats 8000000 in
set_option maxRecDepth 100000 in
theorem virgationlaw11_ints.calls (k : Nat) (A0 : Option Addr) (c0 : Nat) (l0 : List Int) (A1 : Option Addr) (c1 : Nat) (l1 : List Int) (r : Bool) (w : World) (hr0 : Kd.C (Kd.int .i64) w A0 l0.length l0) (hc0 : l0.length ≤ c0) (hr1 : Kd.C (Kd.int .i64) w A1 l1.length l1) (hc1 : l1.length ≤ c1) (h : virgationlaw11_ints.f k l0 l1 = some r) :
    Calls Try.prog 25 #[.slice A0 l0.length c0, .slice A1 l1.length c1] w fun e w' => e = .returned (.bool r) ∧ Drawn0 w w' := by
  have HR0 := Aside0.mk hr0
  have HC0 := Aside0.mk hc0
  clear hr0 hc0
  have HR1 := Aside0.mk hr1
  have HC1 := Aside0.mk hc1
  clear hr1 hc1
  have H : (if (l0.length : Int) = (l1.length : Int) then (virgationlaw11_ints.l0 k l0 l1 (l0.length : Int) 0) else (some false)) = some r := h
  clear h
  by_cases c3 : (l0.length : Int) = (l1.length : Int)
  · rw [if_pos c3] at H
    have c3b0 : ((l0.length : Int) == (l1.length : Int)) = true := beq_iff_eq.mpr c3
    have c3b1 : ((l0.length : Int) != (l1.length : Int)) = false := bne_eq_false_iff_eq.mpr c3
    have c3b2 : (l0.length == l1.length) = true := by first | simpa using c3 | (simp at c3 ⊢; omega)
    clear c3
    have H' := Aside0.mk H
    clear H
    go_enter Try.func25, Try.ntmps25
    go_wp2
    repeat (go_quiet (fail); try go_wp2)
    go_loopg [13] k (fun kq v13 w' => ∃ (x13_1 : Int), v13 = .int .i64 x13_1 ∧ Aside0 (virgationlaw11_ints.l0 kq l0 l1 (l0.length : Int) x13_1 = some r) ∧ Aside0 (kq ≤ k) ∧ Drawn0 w w')
    case atStart => exact ⟨(0), (by first | rfl | (simp; done) | (simp [*]; done)), H', ⟨Nat.le_refl _⟩, by repeat (first | exact Drawn0.refl _ | apply Drawn0.step)⟩
    case round =>
      clear H'
      try clear c1
      try clear c2
      try clear p2
      try clear c3
      try clear c3b0
      try clear c3b1
      try clear c3b2
      obtain ⟨x13_1, rfl, HA, HK1, ⟨m1, rfl⟩⟩ := hrel
      cases gk with
      | zero => exact absurd HA.out (by simp [virgationlaw11_ints.l0])
      | succ k1 =>
        have H := HA.out
        clear HA
        simp only [virgationlaw11_ints.l0] at H
        by_cases c4 : x13_1 < (l0.length : Int)
        · rw [if_pos c4] at H
          have c4b0 : decide (x13_1 < (l0.length : Int)) = true := decide_eq_true c4
          clear c4
          by_cases c5 : 0 ≤ x13_1
          · rw [if_pos c5] at H
            have c5b0 : decide (0 ≤ x13_1) = true := decide_eq_true c5
            clear c5
            by_cases c6 : x13_1 < (l0.length : Int)
            · rw [if_pos c6] at H
              have c6b0 : decide (x13_1 < (l0.length : Int)) = true := decide_eq_true c6
              clear c6
              by_cases c7 : x13_1 < (l1.length : Int)
              · rw [if_pos c7] at H
                have c7b0 : decide (x13_1 < (l1.length : Int)) = true := decide_eq_true c7
                clear c7
                by_cases c8 : (rd l0 x13_1) = (rd l1 x13_1)
                · rw [if_pos c8] at H
                  have c8b0 : ((rd l0 x13_1) == (rd l1 x13_1)) = true := beq_iff_eq.mpr c8
                  have c8b1 : ((rd l0 x13_1) != (rd l1 x13_1)) = false := bne_eq_false_iff_eq.mpr c8
                  clear c8
                  have H' := Aside0.mk H
                  clear H
                  have p140 : 0 ≤ (x13_1 : Int) := of_decide_eq_true (by first | (with_reducible assumption) | assumption)
                  have q140 : x13_1 < (l0.length : Int) := of_decide_eq_true (by first | (with_reducible assumption) | assumption)
                  obtain ⟨ad140, e140, hx140_0⟩ := Kd.at_int HR0.out x13_1 p140 q140
                  cases e140
                  replace p140 := eq_true p140
                  replace q140 := eq_true q140
                  have p141 : 0 ≤ (x13_1 : Int) := of_decide_eq_true (by first | (with_reducible assumption) | assumption)
                  have q141 : x13_1 < (l1.length : Int) := of_decide_eq_true (by first | (with_reducible assumption) | assumption)
                  obtain ⟨ad141, e141, hx141_0⟩ := Kd.at_int HR1.out x13_1 p141 q141
                  cases e141
                  replace p141 := eq_true p141
                  replace q141 := eq_true q141
                  go_wp2
                  repeat (go_quiet (fail); try go_wp2)
                  go_roundg k1
                  case measure => have := HK1.out; omega
                  case rel => exact ⟨(wrap64 (x13_1 + 1)), (by first | rfl | (simp; done) | (simp [*]; done)), H', ⟨by have := HK1.out; omega⟩, by repeat (first | exact Drawn0.refl _ | apply Drawn0.step)⟩
                · rw [if_neg c8] at H
                  have c8b0 : ((rd l0 x13_1) == (rd l1 x13_1)) = false := beq_eq_false_iff_ne.mpr c8
                  have c8b1 : ((rd l0 x13_1) != (rd l1 x13_1)) = true := bne_iff_ne.mpr c8
                  obtain rfl := Option.some.inj H
                  have p140 : 0 ≤ (x13_1 : Int) := of_decide_eq_true (by first | (with_reducible assumption) | assumption)
                  have q140 : x13_1 < (l0.length : Int) := of_decide_eq_true (by first | (with_reducible assumption) | assumption)
                  obtain ⟨ad140, e140, hx140_0⟩ := Kd.at_int HR0.out x13_1 p140 q140
                  cases e140
                  replace p140 := eq_true p140
                  replace q140 := eq_true q140
                  have p141 : 0 ≤ (x13_1 : Int) := of_decide_eq_true (by first | (with_reducible assumption) | assumption)
                  have q141 : x13_1 < (l1.length : Int) := of_decide_eq_true (by first | (with_reducible assumption) | assumption)
                  obtain ⟨ad141, e141, hx141_0⟩ := Kd.at_int HR1.out x13_1 p141 q141
                  cases e141
                  replace p141 := eq_true p141
                  replace q141 := eq_true q141
                  go_wp2
                  repeat (go_quiet (fail); try go_wp2)
                  go_ret
                  exact ⟨by first | rfl | (simp; done) | (simp [*]; done), by repeat (first | exact Drawn0.refl _ | apply Drawn0.step)⟩
              · rw [if_neg c7] at H
                exact absurd H (by simp)
            · rw [if_neg c6] at H
              exact absurd H (by simp)
          · rw [if_neg c5] at H
            exact absurd H (by simp)
        · rw [if_neg c4] at H
          have c4b0 : decide (x13_1 < (l0.length : Int)) = false := decide_eq_false c4
          clear c4
          obtain rfl := Option.some.inj H
          go_wp2
          repeat (go_quiet (fail); try go_wp2)
          go_ret
          exact ⟨by first | rfl | (simp; done) | (simp [*]; done), by repeat (first | exact Drawn0.refl _ | apply Drawn0.step)⟩
  · rw [if_neg c3] at H
    have c3b0 : ((l0.length : Int) == (l1.length : Int)) = false := beq_eq_false_iff_ne.mpr c3
    have c3b1 : ((l0.length : Int) != (l1.length : Int)) = true := bne_iff_ne.mpr c3
    have c3b2 : (l0.length == l1.length) = false := by first | simpa using c3 | (simp at c3 ⊢; omega)
    obtain rfl := Option.some.inj H
    go_enter Try.func25, Try.ntmps25
    go_wp2
    repeat (go_quiet (fail); try go_wp2)
    go_ret
    exact ⟨by first | rfl | (simp; done) | (simp [*]; done), by repeat (first | exact Drawn0.refl _ | apply Drawn0.step)⟩
end Go.Proofs.Ytmphigeefppfpaa.Q
namespace Go.Proofs.Ytmphigeefppfpaa.H
open Go.RowKit Go.Proofs.YtmphigeefppfpaaW.PrintWords Go.Proofs.YtmphigeefppfpaaW.PrintLast Go.Proofs.YtmphigeefppfpaaW.PrintMore
theorem eq_drop_step {α : Type} {x y : List α} (hl : x.length = y.length) {j : Nat} (hj : j < x.length) : x.drop j = y.drop j ↔ x[j] = y[j]'(hl ▸ hj) ∧ x.drop (j + 1) = y.drop (j + 1) := by
  rw [List.drop_eq_getElem_cons hj, List.drop_eq_getElem_cons (hl ▸ hj : j < y.length)]
  exact List.cons_eq_cons
def sameVal (ev st : Int) (l : List (List Int)) (ev2 st2 : Int) (l2 : List (List Int)) : Bool := specOk ev st l && specOk ev2 st2 l2 && decide (ev = ev2) && decide (st = st2) && decide (l = l2)
def SameEnd (b : Bool) (w : World) (e : Ending) (w' : World) : Prop := e = .returned (.bool b) ∧ Below w.heap.size w w'
theorem rdL_len {ev st : Int} {l : List (List Int)} (h : specOk ev st l = true) {j : Nat} (hj : j < l.length) : (l[j].length : Int) = ev := by
  have := (specOk_row h (q := (j : Int)) (by omega) (by omega)).1
  rwa [rdL_at hj] at this
theorem rsame_l1 (x41 x40 : Int) (ev st ev2 st2 : Int) (l l2 : List (List Int)) (j : Nat) (hj : j < l.length) (hj2 : j < l2.length) (hl : l[j].length = l2[j].length) (hx : l[j].length ≤ 9223372036854775807) (r0 : Bool)
    (h0 : Ev (fun k => Q.virgationref11_Same.l0 k x40 (wrap64 (x41 + 1)) ev st l ev2 st2 l2) r0) (d : Nat) : ∀ i : Nat, l[j].length - i = d → i ≤ l[j].length →
    Ev (fun k => Q.virgationref11_Same.l1 k (j : Int) x40 x41 (l[j].length : Int) (i : Int) ev st l ev2 st2 l2) (decide (l[j].drop i = l2[j].drop i) && r0) := by
  induction d with
  | zero =>
    intro i hd hi
    rw [List.drop_eq_nil_of_le (by omega), List.drop_eq_nil_of_le (by omega)]
    refine ev_next h0 fun k => ?_
    simp only [Q.virgationref11_Same.l1]
    rw [if_neg (by omega)]
  | succ d ih =>
    intro i hd hi
    have hlt : i < l[j].length := by omega
    by_cases h1 : rd l[j] i = rd l2[j] i
    · have h2 := ih (i + 1) (by omega) (by omega)
      have h3 : decide (l[j].drop i = l2[j].drop i) = decide (l[j].drop (i + 1) = l2[j].drop (i + 1)) := by
        rw [rd_at hlt, rd_at (hl ▸ hlt : i < l2[j].length)] at h1
        simp only [eq_drop_step hl hlt, h1, true_and]
      rw [h3]
      refine ev_next h2 fun k => ?_
      simp only [Q.virgationref11_Same.l1]
      rw [if_pos (by omega), if_pos (by omega), if_pos (by omega), if_pos (by omega), if_pos (by rw [rdL_at hj]; omega), if_pos (by omega), if_pos (by rw [rdL_at hj2]; omega), if_pos (by rw [rdL_at hj, rdL_at hj2]; exact h1), wrap_succ (by omega) (by omega)]
      rfl
    · have h3 : decide (l[j].drop i = l2[j].drop i) = false := by
        rw [rd_at hlt, rd_at (hl ▸ hlt : i < l2[j].length)] at h1
        simp only [eq_drop_step hl hlt, h1, false_and, decide_false]
      rw [h3]
      refine ev_end fun k => ?_
      simp only [Q.virgationref11_Same.l1]
      rw [if_pos (by omega), if_pos (by omega), if_pos (by omega), if_pos (by omega), if_pos (by rw [rdL_at hj]; omega), if_pos (by omega), if_pos (by rw [rdL_at hj2]; omega), if_neg (by rw [rdL_at hj, rdL_at hj2]; exact h1)]
      rfl
theorem rsame_l0 (ev st ev2 st2 : Int) (l l2 : List (List Int)) (hs : specOk ev st l = true) (hs2 : specOk ev st2 l2 = true) (hl : l.length = l2.length) (hn : lens l) (d : Nat) : ∀ j : Nat, l.length - j = d → j ≤ l.length →
    Ev (fun k => Q.virgationref11_Same.l0 k (l.length : Int) (j : Int) ev st l ev2 st2 l2) (decide (l.drop j = l2.drop j)) := by
  induction d with
  | zero =>
    intro j hd hj
    rw [List.drop_eq_nil_of_le (by omega), List.drop_eq_nil_of_le (by omega)]
    refine ev_end fun k => ?_
    simp only [Q.virgationref11_Same.l0]
    rw [if_neg (by omega)]; rfl
  | succ d ih =>
    intro j hd hj
    have hlt : j < l.length := by omega
    have hlt2 : j < l2.length := by omega
    have h0 := ih (j + 1) (by omega) (by omega)
    have hn1 := hn.1
    have h1 := rsame_l1 j l.length ev st ev2 st2 l l2 j hlt hlt2 (by have a := rdL_len hs hlt; have b := rdL_len hs2 hlt2; omega) (hn.2 _ (List.getElem_mem hlt)) _ (by rw [wrap_succ (by omega) (by omega)]; exact h0) _ 0 rfl (by omega)
    have h3 : decide (l.drop j = l2.drop j) = (decide (l[j].drop 0 = l2[j].drop 0) && decide (l.drop (j + 1) = l2.drop (j + 1))) := by
      rw [List.drop_zero, List.drop_zero, ← Bool.decide_and]
      simp only [eq_drop_step hl hlt]
    rw [h3]
    refine ev_next h1 fun k => ?_
    simp only [Q.virgationref11_Same.l0]
    rw [if_pos (by omega), if_pos (by omega), if_pos (by omega), rdL_at hlt]
    rfl
theorem rsame_ev (ev st ev2 st2 : Int) (l l2 : List (List Int)) (hn : lens l) (hn2 : lens l2) : Ev (fun k => Q.virgationref11_Same.f k ev st l ev2 st2 l2) (sameVal ev st l ev2 st2 l2) := by
  have hbad : ∀ b : Bool, b = true → Ev (fun k => Q.virgationref11_Same.j0 k b ev st l ev2 st2 l2) false := by
    rintro b rfl
    exact ev_end fun k => by simp only [Q.virgationref11_Same.j0]; rfl
  unfold Q.virgationref11_Same.f sameVal
  refine Ev.bind (is_ev ev st l hn) ?_
  cases h1 : specOk ev st l with
  | false => exact Ev.congr (fun k => by rw [if_neg (by simp)]) (hbad true rfl)
  | true =>
    refine Ev.congr (fun k => by rw [if_pos rfl]) ?_
    refine Ev.bind (is_ev ev2 st2 l2 hn2) ?_
    cases h2 : specOk ev2 st2 l2 with
    | false => exact Ev.congr (fun k => by rw [if_neg (by simp)]) (hbad true rfl)
    | true =>
      by_cases e1 : ev = ev2
      · by_cases e2 : st = st2
        · simp only [decide_eq_true e1, decide_eq_true e2, Bool.true_and]
          by_cases e3 : l.length = l2.length
          · subst e1
            have := rsame_l0 ev st ev st2 l l2 h1 h2 e3 hn _ 0 rfl (by omega)
            rw [List.drop_zero, List.drop_zero] at this
            refine Ev.congr (fun k => by rw [if_pos trivial, if_pos rfl, if_pos e2, bne_eq_false_iff_eq.2 (by omega : (l.length : Int) = l2.length)]) (ev_next this fun k => by simp only [Q.virgationref11_Same.j0]; rw [if_neg (by simp)]; rfl)
          · rw [decide_eq_false (fun e => e3 (by rw [e]))]
            exact Ev.congr (fun k => by rw [if_pos trivial, if_pos e1, if_pos e2]) (hbad _ (bne_iff_ne.2 (by omega)))
        · simp only [decide_eq_true e1, decide_eq_false e2, Bool.true_and, Bool.false_and]
          exact Ev.congr (fun k => by rw [if_pos trivial, if_pos e1, if_neg e2]) (hbad true rfl)
      · simp only [decide_eq_false e1, Bool.true_and, Bool.false_and]
        exact Ev.congr (fun k => by rw [if_pos trivial, if_neg e1]) (hbad true rfl)
theorem rsame_calls (ev st : Int) (A : Option Addr) (c : Nat) (l : List (List Int)) (ev2 st2 : Int) (A2 : Option Addr) (c2 : Nat) (l2 : List (List Int)) (w : World) (hr : Kd.C (Kd.slice 3 (Kd.int .i64)) w A l.length l) (hc : l.length ≤ c) (hr2 : Kd.C (Kd.slice 3 (Kd.int .i64)) w A2 l2.length l2) (hc2 : l2.length ≤ c2) :
    Calls Try.prog 21 #[.agg #[.int .i64 ev, .int .i64 st, .slice A l.length c], .agg #[.int .i64 ev2, .int .i64 st2, .slice A2 l2.length c2]] w (SameEnd (sameVal ev st l ev2 st2 l2) w) := by
  obtain ⟨k, hk⟩ := (rsame_ev ev st ev2 st2 l l2 (lens_of_C hr) (lens_of_C hr2)).rounds
  exact Q.virgationref11_Same.calls k ev st A c l ev2 st2 A2 c2 l2 _ w hr hc hr2 hc2 hk
theorem ris_calls (ev st : Int) (A : Option Addr) (c : Nat) (l : List (List Int)) (w : World) (hr : Kd.C (Kd.slice 3 (Kd.int .i64)) w A l.length l) (hc : l.length ≤ c) :
    Calls Try.prog 20 #[.agg #[.int .i64 ev, .int .i64 st, .slice A l.length c]] w (SameEnd (specOk ev st l) w) := by
  obtain ⟨k, hk⟩ := (is_ev ev st l (lens_of_C hr)).rounds
  exact Q.virgationref11_Is.calls k ev st A c l _ w hr hc hk
theorem keep_below {w W W1 : World} (hb : Below W.heap.size W W1) (h : Aside0 (Below w.heap.size w W)) : Aside0 (Below w.heap.size w W1) := ⟨below_then h.out h.out.size hb⟩
theorem keep_blk {W W1 : World} {g : Nat} {o : Obj} (hb : Below W.heap.size W W1) (h : Aside0 (W.heap[g]? = some o)) : Aside0 (W1.heap[g]? = some o) := ⟨blk_below h.out hb⟩
theorem held3 {W : World} {g : Nat} {a b c : Value} (h : Aside0 (W.heap[g]? = some (.cells #[a, b, c] 24 (0, 0)))) : W.cell? ⟨g, 0, none⟩ = some a ∧ W.cell? ⟨g, 1, none⟩ = some b ∧ W.cell? ⟨g, 2, none⟩ = some c :=
  ⟨(blk_cell h.out 0).trans rfl, (blk_cell h.out 1).trans rfl, (blk_cell h.out 2).trans rfl⟩
def two3 (w W : World) (x y : Array Value) : Prop := Aside0 (Below w.heap.size w W) ∧ Aside0 (W.heap[w.heap.size]? = some (.cells x 24 (0, 0))) ∧ Aside0 (W.heap[w.heap.size + 1]? = some (.cells y 24 (0, 0)))
theorem two3_keep {w W W1 : World} {x y : Array Value} (hb : Below W.heap.size W W1) (h : two3 w W x y) : two3 w W1 x y := ⟨keep_below hb h.1, keep_blk hb h.2.1, keep_blk hb h.2.2⟩
theorem two3_held {w W : World} {a b c a' b' c' : Value} (h : two3 w W #[a, b, c] #[a', b', c']) : (W.cell? ⟨w.heap.size, 0, none⟩ = some a ∧ W.cell? ⟨w.heap.size, 1, none⟩ = some b ∧ W.cell? ⟨w.heap.size, 2, none⟩ = some c) ∧
    (W.cell? ⟨w.heap.size + 1, 0, none⟩ = some a' ∧ W.cell? ⟨w.heap.size + 1, 1, none⟩ = some b' ∧ W.cell? ⟨w.heap.size + 1, 2, none⟩ = some c') := ⟨held3 h.2.1, held3 h.2.2⟩
theorem sameVal_self (ev st : Int) (l : List (List Int)) : sameVal ev st l ev st l = specOk ev st l := by simp [sameVal]
end Go.Proofs.Ytmphigeefppfpaa.H
namespace Go.Proofs.Ytmphigeefppfpaa.H
open Go.RowKit Go.Proofs.YtmphigeefppfpaaW.PrintWords Go.Proofs.YtmphigeefppfpaaW.PrintLast Go.Proofs.YtmphigeefppfpaaW.PrintMore
set_option linter.unusedVariables false
def SpecEnd (err n st : Int) (rows : List (List Int)) (w : World) (E : Ending) (w' : World) : Prop := ∃ (A : Option Addr) (c : Nat) (So : Nat → Prop), E = .returned (.tuple #[.agg #[.int .i64 n, .int .i64 st, .slice A rows.length c], .int .i64 err]) ∧ Kd.R (Kd.slice 3 (Kd.int .i64)) 25 w' w.heap.size So (.slice A rows.length c) rows ∧ Below w.heap.size w w'
noncomputable def leastRows (ev st : Int) (l : List (List Int)) : List (List Int) := rleastOf ev.toNat l st
def LeastsEnd (ev st : Int) (l : List (List Int)) : World → Ending → World → Prop := if specOk ev st l then SpecEnd 0 ev 0 (leastRows ev st l) else SpecEnd 11 0 0 []
theorem spec_table {ev st : Int} {l : List (List Int)} (hs : specOk ev st l = true) : tableOk ev.toNat l ∧ domS l st ∧ 0 ≤ ev ∧ ev ≤ 16 ∧ 1 ≤ l.length ∧ l.length ≤ 64 := by
  have hh := headOk_true (specOk_head hs)
  refine ⟨fun row hm => ?_, ⟨by omega, by omega⟩, by omega, by omega, by omega, by omega⟩
  simp only [specOk, Bool.and_eq_true, List.all_eq_true] at hs
  have h2 := hs.2 row hm
  simp only [rowOk, Bool.and_eq_true, decide_eq_true_eq, List.all_eq_true] at h2
  exact ⟨by omega, h2.2⟩
theorem leastRows_is {ev st : Int} {l : List (List Int)} (hs : specOk ev st l = true) : IsLeast ev.toNat l st (leastRows ev st l) ∧ (leastRows ev st l).length ≤ l.length := by
  obtain ⟨h1, h2, _, _, h3, _⟩ := spec_table hs
  exact rleast_is h1 h3 h2
structure SB (w W : World) (a b c : Value) : Prop where
  hb : Below w.heap.size w W
  hs : W.heap[w.heap.size]? = some (.cells #[a, b, c] 24 (0, 0))
  hr : W.heap[w.heap.size + 1]? = some (.cells #[.int .i64 0, .int .i64 0, .slice none 0 0] 24 (0, 0))
theorem SB.below {w W W1 : World} {a b c : Value} (h : SB w W a b c) (hb : Below W.heap.size W W1) : SB w W1 a b c := ⟨below_then h.hb h.hb.size hb, blk_below h.hs hb, blk_below h.hr hb⟩
theorem SB.start (w : World) (a b c : Value) : SB w ((w.alloc (.cells #[a, b, c] 24)).alloc (.cells #[.int .i64 0, .int .i64 0, .slice none 0 0] 24)) a b c :=
  ⟨below_alloc (below_alloc (Below.refl _ _) (.cells #[a, b, c] 24)) (.cells #[.int .i64 0, .int .i64 0, .slice none 0 0] 24), blk_alloc (blk_new _ _) _, blk_at2 _ _ _⟩
theorem SB.cells {w W : World} {a b c : Value} (h : SB w W a b c) : W.cell? ⟨w.heap.size, 0, none⟩ = some a ∧ W.cell? ⟨w.heap.size, 1, none⟩ = some b ∧ W.cell? ⟨w.heap.size, 2, none⟩ = some c :=
  ⟨(blk_cell h.hs 0).trans rfl, (blk_cell h.hs 1).trans rfl, (blk_cell h.hs 2).trans rfl⟩
theorem SB.res {w W : World} {a b c : Value} (h : SB w W a b c) : (W.cell? ⟨w.heap.size + 1, 0, none⟩ = some (.int .i64 0) ∧ W.frozen? ⟨w.heap.size + 1, 0, none⟩ = false) ∧ (W.cell? ⟨w.heap.size + 1, 1, none⟩ = some (.int .i64 0) ∧ W.frozen? ⟨w.heap.size + 1, 1, none⟩ = false) ∧ (W.cell? ⟨w.heap.size + 1, 2, none⟩ = some (.slice none 0 0) ∧ W.frozen? ⟨w.heap.size + 1, 2, none⟩ = false) :=
  ⟨⟨(blk_cell h.hr 0).trans rfl, blk_frozen h.hr 0⟩, ⟨(blk_cell h.hr 1).trans rfl, blk_frozen h.hr 1⟩, (blk_cell h.hr 2).trans rfl, blk_frozen h.hr 2⟩
def outW (w W : World) (a b c : Value) : World := ((W.setCell ⟨w.heap.size + 1, 0, none⟩ a).setCell ⟨w.heap.size + 1, 1, none⟩ b).setCell ⟨w.heap.size + 1, 2, none⟩ c
theorem SB.out {w W : World} {a b c : Value} (h : SB w W a b c) (a' b' c' : Value) : (outW w W a' b' c').heap[w.heap.size + 1]? = some (.cells #[a', b', c'] 24 (0, 0)) ∧ Below w.heap.size w (outW w W a' b' c') :=
  ⟨blk_set (blk_set (blk_set h.hr 0 a') 1 b') 2 c', pw_below_grown (pw_below_grown (pw_below_grown h.hb _ h.hb.size (grown_setCell W ⟨w.heap.size + 1, 0, none⟩ a') (fun k hk => by cases hk; exact Nat.le_succ _)) _ (Nat.le_trans h.hb.size (by simp [World.setCell])) (grown_setCell _ ⟨w.heap.size + 1, 1, none⟩ b') (fun k hk => by cases hk; exact Nat.le_succ _)) _ (Nat.le_trans h.hb.size (by simp [World.setCell])) (grown_setCell _ ⟨w.heap.size + 1, 2, none⟩ c') (fun k hk => by cases hk; exact Nat.le_succ _)⟩
theorem SB.cells_out {w W : World} {a b c : Value} (h : SB w W a b c) (a' b' c' : Value) : (outW w W a' b' c').cell? ⟨w.heap.size, 0, none⟩ = some a ∧ (outW w W a' b' c').cell? ⟨w.heap.size, 1, none⟩ = some b ∧ (outW w W a' b' c').cell? ⟨w.heap.size, 2, none⟩ = some c := by
  have hne : some w.heap.size ≠ some (w.heap.size + 1) := by simp
  have hs : (outW w W a' b' c').heap[w.heap.size]? = some (.cells #[a, b, c] 24 (0, 0)) :=
    blk_grown (blk_grown (blk_grown h.hs (grown_setCell W ⟨w.heap.size + 1, 0, none⟩ a') hne) (grown_setCell _ ⟨w.heap.size + 1, 1, none⟩ b') hne) (grown_setCell _ ⟨w.heap.size + 1, 2, none⟩ c') hne
  exact ⟨(blk_cell hs 0).trans rfl, (blk_cell hs 1).trans rfl, (blk_cell hs 2).trans rfl⟩
theorem SB.stay {w W : World} {a b c : Value} {α : Type} {d : Kd α} {e base : Nat} {S : Nat → Prop} {v : Value} {xs : List α} (h : SB w W a b c) (hR : d.R e W base S v xs) (hq : ∀ q, q ∈ e :: d.E → q ≠ 24) (a' b' c' : Value) : d.R e (outW w W a' b' c') base S v xs :=
  R_offrow (R_offrow (R_offrow hR h.hr hq (grown_setCell W ⟨w.heap.size + 1, 0, none⟩ a')) (blk_set h.hr 0 a') hq (grown_setCell _ ⟨w.heap.size + 1, 1, none⟩ b')) (blk_set (blk_set h.hr 0 a') 1 b') hq (grown_setCell _ ⟨w.heap.size + 1, 2, none⟩ c')
theorem results_row_tmp {P : Program} {fn : Func} {p u : Tmp} {ty : TypeId} (h : fn.results = #[.cell p ty, .tmp u]) (tmps : Array Value) (w : World) (g : Nat) (t : TypeId) (cs : Array Value) (fr : Nat × Nat) (d : TypeDesc)
    (hp : tmps.getD p undef = .pointer (some ⟨g, 0, none⟩)) (hg : w.heap[g]? = some (.cells cs t fr))
    (hu : P.underlying ty = some d) (hd : (match d with | .struct _ | .array _ _ => true | _ => false) = true) (hi : (P.info? ty).map (·.size) = some cs.size) :
    (results fn tmps).run P w = .ok (.tuple #[.agg cs, tmps.getD u undef]) w := by
  rw [results_cell_tmp h, hp]
  simp only [asAddr, Sem.run_pure, Result.andThen_ok, run_loadVar_row w g t ty cs fr d hg hu hd hi]
set_option maxHeartbeats 2000000 in
theorem sLeast_calls (ev st : Int) (A : Option Addr) (c : Nat) (l : List (List Int)) (w : World) (hr : Kd.C (Kd.slice 3 (Kd.int .i64)) w A l.length l) :
    Calls Try.prog 26 #[.agg #[.int .i64 ev, .int .i64 st, .slice A l.length c]] w (LeastsEnd ev st l w) := by
  have H1 := Aside0.mk fun W (hW : Below w.heap.size w W) => check_calls ev st A c l W (Kd.C_below hr hW)
  have hB := Aside0.mk (SB.start w (.int .i64 ev) (.int .i64 st) (.slice A l.length c))
  have HR := Aside0.mk hr
  clear hr
  go_enter Try.func26, Try.ntmps26
  go_upto_region 1 with (fail)
  generalize ((w.alloc (.cells #[.int .i64 ev, .int .i64 st, .slice A l.length c] 24)).alloc (.cells #[.int .i64 0, .int .i64 0, .slice none 0 0] 24)) = w0 at *
  obtain ⟨hc0, hc1, hc2⟩ := (hB.out).cells
  go_wp2_with fail
  refine (H1.out _ (hB.out).hb).mono ?_
  rintro e w1 ⟨rfl, hb⟩
  have hB1 := Aside0.mk ((hB.out).below hb)
  clear hB hc0 hc1 hc2 hb H1
  cases hs : specOk ev st l with
  | false =>
    have hv : checkVal ev st l = 11 := by simp [checkVal, hs]
    rw [hv]
    have HE := Aside0.mk (show LeastsEnd ev st l = SpecEnd 11 0 0 [] from by simp [LeastsEnd, hs])
    clear hv hs
    obtain ⟨⟨hc0, hf0⟩, ⟨hc1, hf1⟩, hc2, hf2⟩ := (hB1.out).res
    go_wp2
    obtain ⟨hblk, hbl⟩ := (hB1.out).out (.int .i64 0) (.int .i64 0) (.slice none 0 0)
    refine bodyPost_ret (results_row_tmp rfl _ _ (w.heap.size + 1) 24 #[.int .i64 0, .int .i64 0, .slice none 0 0] (0, 0) _ rfl hblk Try.underlying24 rfl (by kernel_rfl)) rfl ?_
    rw [HE.out]
    exact ⟨none, 0, fun _ => False, rfl, Kd.R_nil _ _ _ _ _, hbl⟩
  | true =>
    have hv : checkVal ev st l = 0 := by simp [checkVal, hs]
    rw [hv]
    obtain ⟨ht, hst, he0, he1, hl0, hl1⟩ := spec_table hs
    obtain ⟨hg, hg0, hg1⟩ := reach_ok hs
    obtain ⟨k, hk, hmin⟩ := cls_stop hg hg0
    have HE := Aside0.mk (show LeastsEnd ev st l = SpecEnd 0 ev 0 (leastOf ev.toNat (reachB ev st l).1 (clsTo (reachB ev st l).1 (k + 1)).1) from by
      rw [show LeastsEnd ev st l = SpecEnd 0 ev 0 (leastRows ev st l) from by simp [LeastsEnd, hs]]
      rw [(leastRows_is hs).1.unique (least_is hg hg0 hk).1 (reach_lq hs).symm])
    have H2 := Aside0.mk fun W (hW : Below w.heap.size w W) => reached_calls ev st A c l W (Kd.C_below HR.out hW) hs
    have H3 := Aside0.mk fun W A cg (hc : Kd.C (Kd.slice 3 (Kd.int .i64)) W A (reachB ev st l).1.length (reachB ev st l).1) => least_calls ev.toNat (reachB ev st l).1 A cg k 0 W hc (by omega) hg0 (by omega) hg hk hmin
    rw [show ((ev.toNat : Nat) : Int) = ev from by omega] at H3
    unfold ReachEnd at H2
    unfold LeastEnd at H3
    generalize leastOf ev.toNat (reachB ev st l).1 (clsTo (reachB ev st l).1 (k + 1)).1 = rows at *
    generalize (reachB ev st l).1 = g at *
    clear hv hs ht hst hg hmin hk
    have HS := (hB1.out).below (W1 := w1.drew) (below_drew (Below.refl _ _))
    go_wp2
    go_region_held3 (fun w' => w'.cell? ⟨w.heap.size, 0, none⟩ = some (.int .i64 ev) ∧ w'.cell? ⟨w.heap.size, 1, none⟩ = some (.int .i64 st) ∧ w'.cell? ⟨w.heap.size, 2, none⟩ = some (.slice A l.length c))
      (first | exact SB.cells (by assumption) | exact SB.cells_out (by assumption) _ _ _) (first
      | (go_at_call 49; refine (H2.out _ HS.hb).mono ?_; rintro E w2 ⟨ov, So, rfl, ho, hb⟩; (obtain ⟨Ag, cg, rfl⟩ := Kd.R_slice ho); have HO := Aside0.mk (Kd.R_reads' ho); have HS1 := HS.below hb; clear HS hb ho)
      | (go_at_call 48; refine (H3.out _ _ _ (HO.out).2.2).mono ?_; rintro E w3 ⟨ov2, So2, rfl, ho2, hb2⟩; have HB1 := Aside0.mk HS1.hb.size; (obtain ⟨A2, c2, rfl⟩ := Kd.R_slice ho2); have HO2 := Aside0.mk ho2; have HS2 := HS1.below hb2; clear HS1 hb2 ho2; (obtain ⟨⟨hc0, hf0⟩, ⟨hc1, hf1⟩, hc2, hf2⟩ := HS2.res)))
    clear hc0 hf0 hc1 hf1 hc2 hf2
    obtain ⟨hblk, hbl⟩ := HS2.out (.int .i64 ev) (.int .i64 0) (.slice A2 rows.length c2)
    have HO3 := HS2.stay HO2.out (by simp [Kd.slice, Kd.int, Kd.scalar]) (.int .i64 ev) (.int .i64 0) (.slice A2 rows.length c2)
    go_wp2
    refine bodyPost_ret (results_row_tmp rfl _ _ (w.heap.size + 1) 24 #[.int .i64 ev, .int .i64 0, .slice A2 rows.length c2] (0, 0) _ rfl hblk Try.underlying24 rfl (by kernel_rfl)) rfl ?_
    rw [HE.out]
    exact ⟨A2, c2, So2, rfl, Kd.R_lower HO3 HB1.out, hbl⟩
end Go.Proofs.Ytmphigeefppfpaa.H
namespace Go.Proofs.Ytmphigeefppfpaa.H
open Go.RowKit Go.Proofs.YtmphigeefppfpaaW.PrintWords Go.Proofs.YtmphigeefppfpaaW.PrintLast Go.Proofs.YtmphigeefppfpaaW.PrintMore
set_option linter.unusedVariables false
theorem isLeast_ok {n : Nat} {l : List (List Int)} {st : Int} {r : List (List Int)} (h : IsLeast n l st r) : tableOk n r ∧ 1 ≤ r.length := by
  obtain ⟨s, a, D, N, rfl, f, _⟩ := h
  exact table_ok f
end Go.Proofs.Ytmphigeefppfpaa.H
namespace Go.Proofs.Ytmphigeefppfpaa.Q
open Go.RowKit Go.Proofs.YtmphigeefppfpaaW.PrintWords Go.Proofs.YtmphigeefppfpaaW.PrintLast Go.Proofs.YtmphigeefppfpaaW.PrintMore
attribute [local go_sem] max2_int min2_int max_two min_two max_three min_three max_four min_four
set_option linter.unusedVariables false
set_option linter.unusedSimpArgs false
theorem eqA78 (d : Nat) (w : World) (x0 y0 : Int) (x1 y1 : Int) :
    (Op.equalIn (d + 2) 78 (.agg #[.int .i64 x0, .int .i64 x1]) (.agg #[.int .i64 y0, .int .i64 y1])).run Try.prog w = .ok (x0 == y0 && (x1 == y1)) w := by
  refine eqA_of Try.underlying78 (by kernel_rfl) ?_
  refine eqf_cons (by rfl) (by go_simp; rfl) (by go_simp; rfl) (by go_simp) ?_
  exact eqf_last (by rfl) (by go_simp; rfl) (by go_simp; rfl) (by go_simp)
end Go.Proofs.Ytmphigeefppfpaa.Q
namespace Go.Proofs.Ytmphigeefppfpaa.H
open Go.RowKit Go.Proofs.YtmphigeefppfpaaW.PrintWords Go.Proofs.YtmphigeefppfpaaW.PrintLast Go.Proofs.YtmphigeefppfpaaW.PrintMore
set_option linter.unusedVariables false
def ranksB (l : List Int) : Bool := (l.all fun r => decide (0 ≤ r) && decide (r ≤ 4)) && decide ((l.length : Int) ≤ 24)
theorem rk_l0 (l : List Int) (hm : l.length ≤ 9223372036854775807) (d : Nat) : ∀ j : Nat, l.length - j = d → j ≤ l.length →
    Ev (fun k => Q.tree_Ranks.l0 k l l (l.length : Int) (j : Int)) (((l.drop j).all fun r => decide (0 ≤ r) && decide (r ≤ 4)) && decide ((l.length : Int) ≤ 24)) := by
  induction d with
  | zero =>
    intro j hd hj
    refine ev_end fun k => ?_
    simp only [Q.tree_Ranks.l0]
    rw [if_neg (by omega), List.drop_eq_nil_of_le (by omega)]
    rfl
  | succ d ih =>
    intro j hd hj
    have hlt : j < l.length := by omega
    rw [all_drop hlt]
    have e : rd l (j : Int) = l[j] := rd_at hlt
    by_cases h1 : l[j] < 0
    · rw [decide_eq_false (by omega : ¬ 0 ≤ l[j])]
      refine ev_end fun k => ?_
      simp only [Q.tree_Ranks.l0]
      rw [if_pos (by omega), if_pos (by omega), if_pos (by omega), e, if_pos h1]; simp
    · by_cases h2 : l[j] > 4
      · rw [decide_eq_false (by omega : ¬ l[j] ≤ 4)]
        refine ev_end fun k => ?_
        simp only [Q.tree_Ranks.l0]
        rw [if_pos (by omega), if_pos (by omega), if_pos (by omega), e, if_neg h1, if_pos h2]; simp
      · rw [decide_eq_true (by omega : 0 ≤ l[j]), decide_eq_true (by omega : l[j] ≤ 4), Bool.true_and, Bool.true_and]
        refine ev_next (ih (j + 1) (by omega) (by omega)) fun k => ?_
        simp only [Q.tree_Ranks.l0]
        rw [if_pos (by omega), if_pos (by omega), if_pos (by omega), e, if_neg h1, if_neg h2, wrap_succ (by omega) (by omega)]
        rfl
theorem ranks_ev (l : List Int) (hm : l.length ≤ 9223372036854775807) : Ev (fun k => Q.tree_Ranks.f k l) (ranksB l) := rk_l0 l hm _ 0 rfl (Nat.zero_le _)
theorem ranks_calls (A : Option Addr) (c : Nat) (l : List Int) (w : World) (hr : Kd.C (Kd.int .i64) w A l.length l) (hc : l.length ≤ c) : Calls Try.prog 55 #[.slice A l.length c] w fun e w' => e = .returned (.bool (ranksB l)) ∧ Below w.heap.size w w' := by
  obtain ⟨k, hk⟩ := (ranks_ev l hr.2.1).rounds
  exact (Q.tree_Ranks.calls k A c l _ w hr hc hk).mono fun e w' h => ⟨h.1, h.2.below⟩
def needL (r : Int) (tt : Int) : List Q.S78 := (List.range r.toNat).map fun (k : Nat) => ⟨(k : Int), tt⟩
def auGo (of steps : List Int) (q f : Nat) : Int := if rd of f ≥ 0 then rd steps (rd of f) else (q : Int)
def auAt (rk of steps : List Int) (q f : Nat) : List (List Q.S78) := if auGo of steps q f < 0 then [] else [needL (rd rk f) (auGo of steps q f)]
def auRow (rk of steps : List Int) (q m : Nat) : List (List (List Q.S78)) := (List.range m).map (auAt rk of steps q)
def auMoves (rk of : List Int) (g : List (List Int)) (m : Nat) : List (List (List (List Q.S78))) := (List.range m).map fun (q : Nat) => auRow rk of (Q.rd_L1 g (q : Int)) q rk.length
theorem auRow_len (rk of steps : List Int) (q m : Nat) : (auRow rk of steps q m).length = m := by simp [auRow]
theorem auMoves_len (rk of : List Int) (g : List (List Int)) (m : Nat) : (auMoves rk of g m).length = m := by simp [auMoves]
end Go.Proofs.Ytmphigeefppfpaa.H
namespace Go.Proofs.Ytmphigeefppfpaa.H
open Go.RowKit Go.Proofs.YtmphigeefppfpaaW.PrintWords Go.Proofs.YtmphigeefppfpaaW.PrintLast Go.Proofs.YtmphigeefppfpaaW.PrintMore
set_option linter.unusedVariables false
abbrev kA1 : Kd (List Q.S78) := Kd.slice 78 Q.k78
abbrev kA2 : Kd (List (List Q.S78)) := Kd.slice 76 kA1
abbrev kA3 : Kd (List (List (List Q.S78))) := Kd.slice 79 kA2
theorem info78 : (Try.prog.info? 78).map (fun i => (i.zero, i.size, i.bytes)) = some (some (.agg #[.int .i64 0, .int .i64 0]), 2, 16) := by kernel_rfl
theorem info79 : (Try.prog.info? 79).map (fun i => (i.zero, i.size, i.bytes)) = some (some (.slice none 0 0), 1, 24) := by kernel_rfl
theorem info75 : (Try.prog.info? 75).map (fun i => (i.zero, i.size, i.bytes)) = some (some (.slice none 0 0), 1, 24) := by kernel_rfl
section
variable {α : Type} {d : Kd α} {e t base n cap g : Nat} {S ok okp : Nat → Prop} {W : World} {v : Value} {x : List α} {xs : List (List α)}
theorem R_one (h : d.R e W base S v x) (hb : base ≤ W.heap.size) : (Kd.slice e d).R t (W.alloc (.cells #[v] t)) base (fun k => S k ∨ k = W.heap.size) (.slice (some ⟨W.heap.size, 0, none⟩) 1 1) [x] := by
  refine ⟨fun k hk => ?_, [v], ⟨by rfl, .inr ⟨W.heap.size, 1, #[v], rfl, hb, blk_new _ _, by simp, by decide, by simp [Kd.slice], by simp [Kd.slice]⟩⟩, ?_⟩
  · have : W.heap.size = k := by simpa [Value.ownBlock] using hk
    exact .inr this.symm
  · refine (Reps.none _ _).snoc ⟨v, rfl, ?_⟩ rfl
    refine Kd.R_mono (Kd.R_alloc (Kd.R_bound h) _) (fun k hk => ⟨.inl hk.1, fun he => ?_⟩)
    have h1 := hk.2.2.1
    have : k = W.heap.size := by simpa [Value.ownBlock] using he
    omega
theorem R_puts (h : (Kd.slice e d).R t W base ok (.slice (some ⟨g, 0, none⟩) n cap) xs) (i : Nat) (hi : i < n) (hv : d.R e W base okp v x) (hokp : ∀ k, okp k → ok k ∧ k ≠ g) :
    (Kd.slice e d).R t (W.setCell ⟨g, i, none⟩ v) base ok (.slice (some ⟨g, 0, none⟩) n cap) (xs.set i x) ∧ W.grownBy (W.setCell ⟨g, i, none⟩ v) (some g) := by
  obtain ⟨c, hcl, _, hcc, _⟩ := Kd.R_elem h [] (i : Int) (by omega) (by omega)
  have hs : (Kd.slice e d).sz = 1 := rfl
  have := Kd.R_seg h (i : Int) (by omega) (by omega) (c := c) (seg := [v]) (j := 0) hcl hcc (by rw [hs]; exact Nat.le_refl _) (x' := x) (okp := okp) (by
    rw [hs] at hcl
    rw [List.take_zero, List.nil_append, List.drop_eq_nil_of_le (by simp; omega), List.append_nil]
    exact ⟨v, rfl, hv⟩) hokp
  rw [hs, Int.toNat_natCast, Nat.mul_one, Nat.add_zero] at this
  exact this
theorem R_cell1 (h : (Kd.slice e d).R t W base ok (.slice (some ⟨g, 0, none⟩) n cap) xs) (i : Nat) (hi : i < n) : ∃ u, W.cell? ⟨g, i, none⟩ = some u ∧ W.frozen? ⟨g, i, none⟩ = false ∧ u.cells.size = 1 := by
  obtain ⟨c, hcl, hM, hcc, hf⟩ := Kd.R_elem h [] (i : Int) (by omega) (by omega)
  obtain ⟨u, rfl, hR⟩ := hM
  have hs : (Kd.slice e d).sz = 1 := rfl
  have h0 := hcc 0 u rfl
  have h1 := hf 0
  rw [hs, Int.toNat_natCast, Nat.mul_one, Nat.add_zero] at h0 h1
  obtain ⟨A, cc, rfl⟩ := Kd.R_slice hR
  exact ⟨_, h0, h1, rfl⟩
theorem R_empty (d : Kd α) (W : World) (base : Nat) (hb : base ≤ W.heap.size) : d.R e (W.alloc (.cells #[] e)) base (fun k => k = W.heap.size) (.slice (some ⟨W.heap.size, 0, none⟩) 0 0) [] := by
  refine ⟨fun k hk => ?_, [], ⟨by simp, .inr ⟨W.heap.size, 0, #[], rfl, hb, blk_new _ _, by simp, by decide, by simp, by simp⟩⟩, Reps.none _ _⟩
  have : W.heap.size = k := by simpa [Value.ownBlock] using hk
  exact this.symm
theorem set_row {n f : Nat} {r : List (List α)} (hr : r.length = f) (hf : f < n) (y : List α) : (r ++ List.replicate (n - f) []).set f y = (r ++ [y]) ++ List.replicate (n - (f + 1)) [] := by
  obtain ⟨m, hm⟩ : ∃ m, n - f = m + 1 := ⟨n - f - 1, by omega⟩
  rw [hm, show n - (f + 1) = m from by omega, List.set_append_right _ _ (by omega), hr, Nat.sub_self, List.replicate_succ, List.set_cons_zero, List.append_assoc]
  rfl
end
def CloneEnd (xs : List Int) (w : World) (E : Ending) (w' : World) : Prop := ∃ (v : Value) (S : Nat → Prop), E = .returned v ∧ Kd.R (Kd.int .i64) 3 w' w.heap.size S v xs ∧ Below w.heap.size w w'
set_option maxHeartbeats 1000000 in
set_option maxRecDepth 100000 in
theorem clone_calls (A : Option Addr) (c : Nat) (xs : List Int) (w : World) (hr : Kd.C (Kd.int .i64) w A xs.length xs) (hm : xs.length * 8 ≤ 140737488355328) : Calls Try.prog 57 #[.slice A xs.length c] w (CloneEnd xs w) := by
  have HR := Aside0.mk hr
  cases A with
  | none =>
    have h0 : xs.length = 0 := by
      rcases Nat.eq_zero_or_pos xs.length with h | h
      · exact h
      · obtain ⟨_, h1, _⟩ := hr.2.2 h
        cases h1
    have hx : xs = [] := List.eq_nil_of_length_eq_zero h0
    subst hx
    clear hr h0 hm HR
    have he := fun W : World => Lib.run_eql_slice_nil (P := Try.prog) W 25 3 none 0 c 0 0 Try.underlying25
    go_enter Try.func57, Try.ntmps57
    go_wp2
    go_ret
    exact ⟨_, fun _ => False, rfl, Kd.R_nil _ _ _ _ _, Below.refl _ _⟩
  | some ad =>
    clear hr
    have he := fun W : World => Lib.run_eql_slice_nil (P := Try.prog) W 25 3 (some ad) xs.length c 0 0 Try.underlying25
    go_enter Try.func57, Try.ntmps57
    go_wp2_with ((with_reducible refine gate_builtin (b := .append) (xs := #[.tmp 5, .tmp 6]) rfl ?_); refine Kd.R_append_rows (Kd.int .i64) (Rr := fun x cs => cs = [Value.int .i64 x]) (w0 := w) w.heap.size rfl (.tmp 5) (.tmp 6) 25 3 (.int .i64 0) 8 rfl Try.underlying25 info3 rfl (by decide) (by omega) (.slice (some ⟨w.heap.size, 0, none⟩) 0 0) [] xs (some ad) xs.length c (fun k => w.heap.size ≤ k) (fun _ => False) rfl rfl ?m1 ?m2 (fun _ _ h => h) (fun _ hk => hk.elim) ?m3 ?m4 ?m5 ?m6 ?_; (case m1 => exact Kd.R_mono (R_empty (Kd.int .i64) w w.heap.size (Nat.le_refl _)) (fun k hk => by omega)); (case m2 => exact Kd.C_below HR.out (below_alloc (Below.refl _ _) _)); (case m3 => intro k hk; simp at hk; omega); (case m4 => exact below_alloc (Below.refl _ _) _); (case m5 => simp); (case m6 => simp; omega); intro v1 w1 hr1 hb1 hg1 hat1; have HR1 := Aside0.mk hr1; have HB1 := Aside0.mk hb1; clear hr1 hb1 hg1 hat1)
    go_ret
    exact ⟨_, _, rfl, HR1.out, HB1.out⟩
structure AS (w W : World) (bs : List (Nat × Array Value)) (ob B1 : Nat) (rv gv mv bv : Value) (Sm : Nat → Prop) (rk : List Int) (g : List (List Int)) (M : List (List (List (List Q.S78)))) : Prop where
  hb : Below w.heap.size w W
  hbs : ∀ p ∈ bs, W.heap[p.1]? = some (.cells p.2 24 (0, 0)) ∧ p.1 < B1 ∧ p.1 ≠ ob
  hr : W.heap[w.heap.size + 1]? = some (.cells #[.slice none 0 0, .int .i64 0, .slice none 0 0] 44 (0, 0))
  ho : W.heap[ob]? = some (.cells #[rv, .int .i64 0, bv] 44 (0, 0))
  h1 : w.heap.size + 1 < ob ∧ ob < B1 ∧ B1 ≤ W.heap.size
  hRk : Kd.R (Kd.int .i64) 3 W w.heap.size (fun k => k < B1) rv rk
  hg : Kd.R (Kd.slice 3 (Kd.int .i64)) 25 W w.heap.size (fun k => k < B1) gv g
  hM : Kd.R kA3 75 W B1 Sm mv M
section
variable {w W W1 : World} {bs : List (Nat × Array Value)} {ob B1 : Nat} {rv gv mv bv mv1 : Value} {Sm Sw Sl : Nat → Prop} {rk : List Int} {g : List (List Int)} {M M1 : List (List (List (List Q.S78)))}
theorem AS.below (h : AS w W bs ob B1 rv gv mv bv Sm rk g M) (hb : Below W.heap.size W W1) : AS w W1 bs ob B1 rv gv mv bv Sm rk g M :=
  ⟨below_then h.hb h.hb.size hb, fun p hp => ⟨blk_below (h.hbs p hp).1 hb, (h.hbs p hp).2⟩, blk_below h.hr hb, blk_below h.ho hb, ⟨h.h1.1, h.h1.2.1, Nat.le_trans h.h1.2.2 hb.size⟩, Kd.R_below h.hRk hb, Kd.R_below h.hg hb, Kd.R_below h.hM hb⟩
theorem AS.grown {row : Option Nat} (h : AS w W bs ob B1 rv gv mv bv Sm rk g M) (hg : W.grownBy W1 row) (hne : ∀ k, row = some k → B1 ≤ k ∧ ¬ Sm k) : AS w W1 bs ob B1 rv gv mv bv Sm rk g M := by
  obtain ⟨a1, a2, a3⟩ := h.h1
  have hlt : ∀ b, b < B1 → some b ≠ row := fun b hb e => by have := (hne b e.symm).1; omega
  exact ⟨pw_below_grown h.hb _ h.hb.size hg (fun k hk => by have := (hne k hk).1; omega), fun p hp => ⟨blk_grown (h.hbs p hp).1 hg (hlt _ (h.hbs p hp).2.1), (h.hbs p hp).2⟩, blk_grown h.hr hg (hlt _ (by omega)), blk_grown h.ho hg (hlt _ a2), ⟨a1, a2, Nat.le_trans a3 hg.size⟩,
    R_low h.hRk hg (fun k hk => (hne k hk).1), R_low h.hg hg (fun k hk => (hne k hk).1), Kd.R_grown h.hM hg (fun k hk e => (hne k e.symm).2 hk)⟩
theorem AS.appM {ok : Nat → Prop} (h : AS w W bs ob B1 rv gv mv bv Sm rk g M) (hq : Kd.R kA3 75 W1 B1 ok mv1 M1) (hg : W.grownBy W1 mv.ownBlock) : AS w W1 bs ob B1 rv gv mv1 bv ok rk g M1 := by
  obtain ⟨a1, a2, a3⟩ := h.h1
  have hbase := Kd.R_base h.hM
  have hlt : ∀ b, b < B1 → some b ≠ mv.ownBlock := fun b hb e => by have := hbase b e.symm; omega
  exact ⟨pw_below_grown h.hb _ h.hb.size hg (fun k hk => by have := hbase k hk; omega), fun p hp => ⟨blk_grown (h.hbs p hp).1 hg (hlt _ (h.hbs p hp).2.1), (h.hbs p hp).2⟩, blk_grown h.hr hg (hlt _ (by omega)), blk_grown h.ho hg (hlt _ a2), ⟨a1, a2, Nat.le_trans a3 hg.size⟩,
    R_low h.hRk hg hbase, R_low h.hg hg hbase, hq⟩
theorem AS.put (h : AS w W bs ob B1 rv gv mv bv Sm rk g M) (bv1 : Value) : AS w (W.setCell ⟨ob, 2, none⟩ bv1) bs ob B1 rv gv mv bv1 Sm rk g M := by
  obtain ⟨a1, a2, a3⟩ := h.h1
  have hg := grown_setCell W ⟨ob, 2, none⟩ bv1
  exact ⟨pw_below_grown h.hb _ h.hb.size hg (fun k hk => by cases hk; show _ ≤ ob; omega), fun p hp => ⟨blk_grown (h.hbs p hp).1 hg (fun e => by injection e with e; exact (h.hbs p hp).2.2 e), (h.hbs p hp).2⟩, blk_grown h.hr hg (fun e => by injection e with e; have e2 : w.heap.size + 1 = ob := e; omega), blk_set h.ho 2 bv1, ⟨a1, a2, Nat.le_trans a3 hg.size⟩,
    R_offrow h.hRk h.ho (by simp [Kd.int, Kd.scalar]) hg, R_offrow h.hg h.ho (by simp [Kd.slice, Kd.int, Kd.scalar]) hg, R_offrow h.hM h.ho (by simp [Kd.slice, Q.k78, Kd.iso, Kd.pair, Kd.int, Kd.scalar]) hg⟩
end
def auBad (ev x : Int) : Bool := decide (x < -1) || decide (x ≥ ev)
def auArgs (ev : Int) (rk of : List Int) : Bool := ranksB rk && decide (of.length = rk.length) && !(of.any (auBad ev))
noncomputable def auErr (ev st : Int) (l : List (List Int)) (rk of : List Int) : Int := if specOk ev st l then (if auArgs ev rk of then (if 6 < (leastRows ev st l).length then 3 else 0) else 2) else 11
noncomputable def auRk (ev st : Int) (l : List (List Int)) (rk of : List Int) : List Int := if auErr ev st l rk of = 0 then rk else []
noncomputable def auM (ev st : Int) (l : List (List Int)) (rk of : List Int) : List (List (List (List Q.S78))) := if auErr ev st l rk of = 0 then auMoves rk of (leastRows ev st l) (leastRows ev st l).length else []
def AuEnd (err : Int) (rk : List Int) (M : List (List (List (List Q.S78)))) (w : World) (E : Ending) (w' : World) : Prop :=
  ∃ (A1 A2 : Option Addr) (c1 c2 : Nat) (S1 S2 : Nat → Prop), E = .returned (.tuple #[.agg #[.slice A1 rk.length c1, .int .i64 0, .slice A2 M.length c2], .int .i64 err]) ∧ Kd.R (Kd.int .i64) 3 w' w.heap.size S1 (.slice A1 rk.length c1) rk ∧ Kd.R kA3 75 w' w.heap.size S2 (.slice A2 M.length c2) M ∧ Below w.heap.size w w'
end Go.Proofs.Ytmphigeefppfpaa.H
namespace Go.Proofs.Ytmphigeefppfpaa.H
open Go.RowKit Go.Proofs.YtmphigeefppfpaaW.PrintWords Go.Proofs.YtmphigeefppfpaaW.PrintLast Go.Proofs.YtmphigeefppfpaaW.PrintMore
set_option linter.unusedVariables false
def kP : Kd (Int × Int) := Kd.pair (Kd.int .i64) (Kd.int .i64)
def encP (p : Int × Int) : Value := .agg #[.int .i64 p.1, .int .i64 p.2]
def domP (p : Int × Int) : Prop := wf64 p.1 ∧ wf64 p.2
theorem key56 : KeyB Try.prog 56 (encA .i64) (fun xs => xs.length = 2 ∧ ∀ x ∈ xs, (Lit.int .i64 x).wf = true) := keyArr (P := Try.prog) (e := 3) (n := 2) (by kernel_rfl) (of_decide_eq_true (by kernel_rfl)) (by kernel_rfl) (by kernel_rfl) Try.underlying56 Try.underlying3 (by kernel_rfl) (by kernel_rfl) (of_decide_eq_true (by kernel_rfl))
theorem keyPair : KeyB Try.prog 56 encP domP where
  K := key56.K
  lit := fun p h => key56.lit [p.1, p.2] ⟨rfl, fun x hx => by
    simp only [List.mem_cons, List.not_mem_nil, or_false] at hx
    rcases hx with rfl | rfl
    · exact h.1
    · exact h.2⟩
  inj := fun p q h => by
    obtain ⟨a, b⟩ := p
    obtain ⟨c, d⟩ := q
    simp only [encP, Value.agg.injEq] at h
    have := congrArg Array.toList h
    simp at this
    exact Prod.ext this.1 this.2
theorem info56 : (Try.prog.info? 56).map (fun i => (i.zero, i.size, i.bytes)) = some (some (.agg #[.int .i64 0, .int .i64 0]), 2, 16) := by kernel_rfl
theorem M_pair (W : World) (base : Nat) (ok : Nat → Prop) (p : Int × Int) : kP.M W base ok p [.int .i64 p.1, .int .i64 p.2] := ⟨[.int .i64 p.1], [.int .i64 p.2], rfl, rfl, rfl⟩
theorem R_new1P (W : World) (x : Int × Int) (base : Nat) (hb : base ≤ W.heap.size) : Kd.R kP 56 (W.alloc (.cells #[.int .i64 x.1, .int .i64 x.2] 56)) base (fun k => k = W.heap.size) (.slice (some ⟨W.heap.size, 0, none⟩) 1 1) [x] := by
  refine ⟨fun k hk => ?_, [.int .i64 x.1, .int .i64 x.2], ⟨by rfl, .inr ⟨W.heap.size, 1, #[.int .i64 x.1, .int .i64 x.2], rfl, hb, blk_new _ _, by simp, by decide, by simp [kP, Kd.pair, Kd.int, Kd.scalar], by simp [kP, Kd.pair, Kd.int, Kd.scalar]⟩⟩, ?_⟩
  · have : W.heap.size = k := by simpa [Value.ownBlock] using hk
    omega
  · exact (Reps.none _ _).snoc (M_pair _ _ _ x) rfl
theorem pair_at {e base n cap : Nat} {ok : Nat → Prop} {W : World} {A : Option Addr} {xs : List (Int × Int)} (h : kP.R e W base ok (.slice A n cap) xs) {i : Nat} (hi : i < xs.length) (hn : n = xs.length) :
    ∃ ad, A = some ad ∧ W.cell? (ad.add (i * 2)) = some (.int .i64 xs[i].1) ∧ W.cell? ⟨(ad.add (i * 2)).block, (ad.add (i * 2)).off + 1, none⟩ = some (.int .i64 xs[i].2) := by
  cases A with
  | none =>
    obtain ⟨A', c', he⟩ := Kd.R_slice h
    obtain ⟨_, inner, ho, _⟩ := h
    rcases ho.2 with ⟨hv, _⟩ | ⟨g, cap, cur, hv, _⟩
    · injection hv with _ h2 _; omega
    · injection hv with h2 _ _; cases h2
  | some ad =>
    refine ⟨ad, rfl, ?_⟩
    obtain ⟨c, hc, hM, hcc⟩ := Kd.R_get h (0, 0) (i : Int) (by omega) (by omega)
    rw [Int.toNat_natCast, List.getD_eq_getElem?_getD, List.getElem?_eq_getElem hi, Option.getD_some] at hM
    obtain ⟨c0, c1, rfl, h0, h1⟩ := hM
    have e0 : c0 = [.int .i64 xs[i].1] := h0
    have e1 : c1 = [.int .i64 xs[i].2] := h1
    subst e0; subst e1
    rw [Int.toNat_natCast] at hcc
    refine ⟨hcc 0 _ rfl, ?_⟩
    have h2 := hcc 1 _ rfl
    obtain ⟨_, inner, ho, _⟩ := h
    rcases ho.2 with ⟨hv, _⟩ | ⟨g, cap, cur, hv, _⟩
    · cases hv
    · injection hv with hg _ _
      injection hg with hg
      subst hg
      rw [add_at] at h2 ⊢
      exact h2
def StepWP (g : Nat) (lb : Array Value) (D : Int × Int → Prop) (n : Nat) (step : Int × Int → Nat → (Int × Int) × Bool) (w : World) : Prop :=
  ∀ (W : World) (x : Int × Int) (e : Nat), Below w.heap.size w W → D x → e < n → Calls Try.prog g (#[.agg #[.int .i64 x.1, .int .i64 x.2], .int .i64 e] ++ lb) W fun E w' => E = .returned (.tuple #[.agg #[.int .i64 (step x e).1.1, .int .i64 (step x e).1.2], .bool (step x e).2]) ∧ Below W.heap.size W w'
def ExEndP (n : Nat) (step : Int × Int → Nat → (Int × Int) × Bool) (start : Int × Int) (m : Nat) (w : World) (e : Ending) (w' : World) : Prop :=
  ∃ (ov qv : Value) (So Sq : Nat → Prop), e = .returned (.tuple #[ov, qv]) ∧ (∀ k, So k → ¬ Sq k) ∧ Kd.R (Kd.slice 3 (Kd.int .i64)) 25 w' w.heap.size So ov (bfsTo n step start m).1 ∧ Kd.R kP 56 w' w.heap.size Sq qv (bfsTo n step start m).2 ∧ Below w.heap.size w w'
set_option maxHeartbeats 4000000 in
set_option maxRecDepth 100000 in
theorem exploredP_calls (n : Nat) (start : Int × Int) (g : Nat) (lb : Array Value) (D : Int × Int → Prop) (step : Int × Int → Nat → (Int × Int) × Bool) (m : Nat) (w : World) (hn : n ≤ 16) (hm : m ≤ 100000) (hend : (bfsTo n step start m).2.length ≤ m)
    (hp : StepWP g lb D n step w) (h0 : D start) (hstep : ∀ x e, D x → e < n → (step x e).2 = true → D (step x e).1) (hD : ∀ x, D x → domP x)
    (eg : ∀ args w, (callFunc g args).run Try.prog w = .ok (.enter g args) w) :
    Calls Try.prog 67 #[.int .i64 n, .agg #[.int .i64 start.1, .int .i64 start.2], .func (.func g) #[] lb] w (ExEndP n step start m w) := by
  have hmm := @run_makeMap Try.prog
  have HP := Aside0.mk hp
  have HE := Aside0.mk hend
  have HS := Aside0.mk hstep
  have HD := Aside0.mk hD
  have HD0 := Aside0.mk h0
  clear hp hend hstep hD h0
  go_enter Try.func67, Try.ntmps67
  go_upto_region 1 with (fail)
  have HX0 := Aside0.mk (blk_new w (.cells #[.int .i64 start.1, .int .i64 start.2] 56))
  have HB0 := Aside0.mk (below_alloc (Below.refl w.heap.size w) (.cells #[.int .i64 start.1, .int .i64 start.2] 56))
  generalize (w.alloc (.cells #[.int .i64 start.1, .int .i64 start.2] 56)) = W0 at *
  obtain ⟨wm, hrun, HM0, hgm⟩ := MapIs.put (mapIs_new W0 encP encN domP) keyPair Try.underlying96 (HD.out _ HD0.out) 0
  have hrun' : (Instr.mapUpdate 96 (.map (some W0.heap.size)) (.agg #[.int .i64 start.1, .int .i64 start.2]) (.int .i64 0)).run Try.prog (W0.alloc (.map #[] 0)) = .ok () wm := hrun
  clear hrun
  have HXM := Aside0.mk (blk_grown (blk_alloc HX0.out (.map #[] 0)) hgm (fun e => by injection e with e; exact MapIs.ne_row (mapIs_new (ν := Nat) W0 encP encN domP) (blk_alloc HX0.out (.map #[] 0)) e))
  have hm0 : (W0.alloc (.map #[] 0)).cell? ⟨w.heap.size, 0, none⟩ = some (.int .i64 start.1) := (blk_cell (blk_alloc HX0.out (.map #[] 0)) 0).trans rfl
  have hm1 : (W0.alloc (.map #[] 0)).cell? ⟨w.heap.size, 1, none⟩ = some (.int .i64 start.2) := (blk_cell (blk_alloc HX0.out (.map #[] 0)) 1).trans rfl
  have hx0 : wm.cell? ⟨w.heap.size, 0, none⟩ = some (.int .i64 start.1) := (blk_cell HXM.out 0).trans rfl
  have hx1 : wm.cell? ⟨w.heap.size, 1, none⟩ = some (.int .i64 start.2) := (blk_cell HXM.out 1).trans rfl
  have HBM := Aside0.mk (pw_below_grown (below_alloc HB0.out (.map #[] 0)) _ (Nat.le_trans (HB0.out).size (by simp)) hgm (fun k hk => by cases hk; exact (HB0.out).size))
  have HM0 := Aside0.mk HM0
  have HMB := Aside0.mk (HB0.out).size
  clear HX0 HXM hgm
  go_wp2
  generalize W0.heap.size = MB at *
  clear hm0 hm1 hx0 hx1 hrun'
  have HB0 := Aside0.mk (below_alloc HBM.out (.cells #[.int .i64 start.1, .int .i64 start.2] 56))
  have HQ0 := Aside0.mk (R_new1P wm start w.heap.size (HBM.out).size)
  have HM1 := Aside0.mk (MapIs.below HM0.out (below_alloc (Below.refl _ _) (.cells #[.int .i64 start.1, .int .i64 start.2] 56)))
  clear HM0 HBM
  go_loopg [9, 10, 11] m (fun gg v9 v10 v11 wr => ∃ (i : Nat) (So Sq : Nat → Prop), i ≤ m ∧ m - i ≤ gg ∧ v11 = .int .i64 i ∧ Aside0 (Disj So Sq) ∧ Aside0 (Below w.heap.size w wr) ∧ Aside0 (MapIs wr MB encP encN domP (bfsTo n step start i).2.zipIdx) ∧ Aside0 (Kd.R kP 56 wr w.heap.size Sq v9 (bfsTo n step start i).2) ∧ Aside0 (Kd.R (Kd.slice 3 (Kd.int .i64)) 25 wr w.heap.size So v10 (bfsTo n step start i).1))
  case atStart =>
    exact ⟨0, fun _ => False, fun k => k = wm.heap.size, by omega, by omega, rfl, ⟨fun _ h => h.elim⟩, HB0, HM1, HQ0, ⟨Kd.R_nil _ _ _ _ _⟩⟩
  case round =>
    clear HB0 HQ0 HM1
    obtain ⟨i, So, Sq, him, hg, rfl, HDJ, HB, HM, HQ, HO⟩ := hrel
    obtain ⟨A9, c9, rfl⟩ := Kd.R_slice HQ.out
    obtain ⟨A10, c10, rfl⟩ := Kd.R_slice HO.out
    have hmono := Aside0.mk (Nat.le_trans (bfsTo_mono (n := n) (step := step) (start := start) him) HE.out)
    by_cases hlt : i < (bfsTo n step start i).2.length
    · have hltz : (i : Int) < ((bfsTo n step start i).2.length : Int) := by omega
      have HST := Aside0.mk (bfsTo_step (n := n) (step := step) (start := start) hlt)
      have hqm := Aside0.mk (Nat.le_trans (bfsTo_mono (n := n) (step := step) (start := start) (i := i + 1) (m := m) (by have := hmono.out; omega)) HE.out)
      have HXD := Aside0.mk (bfsTo_all (n := n) (D := D) HS.out HD0.out i _ (List.getElem_mem hlt))
      have HQD := Aside0.mk (bfsTo_all (n := n) (D := D) HS.out HD0.out i)
      have HXI := Aside0.mk (List.getElem?_eq_getElem hlt)
      have HOL := Aside0.mk (bfsTo_out (n := n) (step := step) (start := start) (i := i))
      generalize (bfsTo n step start i).2[i] = x at *
      rw [HST.out] at hqm
      have him2 : i + 1 ≤ m := by
        have h1 := hmono.out
        omega
      clear hmono
      generalize (bfsTo n step start i).2 = q at *
      generalize (bfsTo n step start i).1 = o at *
      go_wp2_with ((with_reducible refine gate_dst (N := 30) rfl ?_); refine Kd.R_make (Kd.int .i64) w.heap.size 3 rfl (N := 30) rfl 25 _ _ rfl (n : Int) rfl rfl Try.underlying25 (.int .i64 0) 8 info3 rfl (by decide) (by omega) 0 (ok := fun k => wr.heap.size ≤ k) (okp := fun _ => False) rfl (fun _ hk => hk.elim) (Nat.le_refl _) (by omega) (by omega) HB.out (HB.out).size ?_; intro v1 w1 hr1 hb1 hg1 hnew1)
      obtain ⟨rb, hrb, hrb2⟩ := hnew1
      obtain ⟨capr, hv1⟩ := R_formB hr1 hrb
      rw [List.length_replicate, Int.toNat_natCast] at hv1
      subst hv1
      have HR1 := Aside0.mk hr1
      have HB1 := Aside0.mk hb1
      have HM1 := Aside0.mk ((HM.out).grown hg1 (by simp))
      have HQ1 := Aside0.mk (R_stay HQ.out hg1 (by simp))
      have HO1 := Aside0.mk (R_stay HO.out hg1 (by simp))
      have HDJ1 := Aside0.mk ((HDJ.out).less wr.heap.size)
      have HDR1 := Aside0.mk (show Disj (fun k => So k ∧ k < wr.heap.size) (fun k => wr.heap.size ≤ k) from fun k ha hb => by have := ha.2; omega)
      have HDS1 := Aside0.mk (show Disj (fun k => Sq k ∧ k < wr.heap.size) (fun k => wr.heap.size ≤ k) from fun k ha hb => by have := ha.2; omega)
      clear hr1 hb1 hg1 HM HQ HO hrb hrb2 HDJ HB
      rw [Int.toNat_natCast] at HR1
      generalize (fun k => So k ∧ k < wr.heap.size) = So1 at *
      generalize (fun k => Sq k ∧ k < wr.heap.size) = Sq1 at *
      generalize (fun k => wr.heap.size ≤ k) = Sr1 at *
      go_wp2
      go_loopg [9, 32] n (fun gk v9 v32 wi => ∃ (e : Nat) (So Sq Sr : Nat → Prop), e ≤ n ∧ n - e ≤ gk ∧ v32 = .int .i64 e ∧ Aside0 (Disj So Sq) ∧ Aside0 (Disj So Sr) ∧ Aside0 (Disj Sq Sr) ∧ Aside0 (Below w.heap.size w wi) ∧
        Aside0 (MapIs wi MB encP encN domP (rowTo step x q e).2.zipIdx) ∧ Aside0 (Kd.R kP 56 wi w.heap.size Sq v9 (rowTo step x q e).2) ∧
        Aside0 (Kd.R (Kd.slice 3 (Kd.int .i64)) 25 wi w.heap.size So (.slice A10 o.length c10) o) ∧ Aside0 (Kd.R (Kd.int .i64) 3 wi w.heap.size Sr (.slice (some ⟨rb, 0, none⟩) n capr) ((rowTo step x q e).1 ++ List.replicate (n - e) 0)))
      case atStart => exact ⟨0, So1, Sq1, Sr1, by omega, by omega, rfl, HDJ1, HDR1, HDS1, HB1, HM1, HQ1, HO1, HR1⟩
      case round =>
        clear HDJ1 HDR1 HDS1 HB1 HM1 HQ1 HO1 HR1 So1 Sq1 Sr1 So Sq
        obtain ⟨e, So, Sq, Sr, hen, hgk, rfl, HDJ, HDR, HDS, HB, HM, HQ, HO, HR⟩ := hrel
        by_cases hle : e < n
        · have hlez : (e : Int) < (n : Int) := by omega
          obtain ⟨A9, c9, rfl⟩ := Kd.R_slice HQ.out
          obtain ⟨hc1, hf1⟩ := Kd.R_celln 0 HR.out (e : Int) (by omega) (by omega)
          rw [Int.toNat_natCast] at hc1 hf1
          have HPUT := Kd.R_putg HR.out (e : Int) (-1)
          rw [Int.toNat_natCast, set_next rowTo_len hle] at HPUT
          have HRB := Aside0.mk (HR.out.1 rb rfl)
          have HPUT := Aside0.mk HPUT
          go_upto_region 12 with (fail)
          clear hc1 hf1
          have HR2 := Aside0.mk (HPUT.out).1
          have hg2 := (HPUT.out).2
          have HQ2 := Aside0.mk (R_stay HQ.out hg2 (fun k hk => by cases hk; exact fun h => HDS.out _ h HRB.out))
          have HO2 := Aside0.mk (R_stay HO.out hg2 (fun k hk => by cases hk; exact fun h => HDR.out _ h HRB.out))
          have HM2 := Aside0.mk (MapIs.stay HM.out HR.out hg2)
          have HB2 := Aside0.mk (pw_below_grown HB.out _ (HB.out).size hg2 (Kd.R_base HR.out))
          have HDJ2 := Aside0.mk ((HDJ.out).less wr.heap.size)
          have HDR2 := Aside0.mk (show Disj (fun k => So k ∧ k < wr.heap.size) Sr from fun k ha hb => HDR.out k ha.1 hb)
          have HDS2 := Aside0.mk (show Disj (fun k => Sq k ∧ k < wr.heap.size) Sr from fun k ha hb => HDS.out k ha.1 hb)
          clear HPUT HR HQ HO HM HB HDJ HDR HDS hg2
          generalize (wr.setCell ⟨rb, e, none⟩ (Value.int .i64 (-1))) = w2 at *
          generalize (fun k => So k ∧ k < wr.heap.size) = So2 at *
          generalize (fun k => Sq k ∧ k < wr.heap.size) = Sq2 at *
          have hpre : ∃ h : i < (rowTo step x q e).2.length, (rowTo step x q e).2[i] = x := by
            obtain ⟨r, hr⟩ := rowTo_pre (step := step) (x := x) (q := q) (e := e)
            have hlen : i < (rowTo step x q e).2.length := by rw [hr, List.length_append]; omega
            refine ⟨hlen, ?_⟩
            have h2 : (rowTo step x q e).2[i]? = some x := by
              rw [hr, List.getElem?_append_left hlt]
              exact HXI.out
            exact (List.getElem?_eq_some_iff.1 h2).2
          obtain ⟨hpre1, hpre2⟩ := hpre
          have hprez : (i : Int) < ((rowTo step x q e).2.length : Int) := by omega
          obtain ⟨ad, e0, hxa, hxb⟩ := pair_at HQ2.out hpre1 rfl
          cases e0
          rw [hpre2] at hxa hxb
          clear hpre2
          have hcall := Aside0.mk (HP.out w2 x e HB2.out HXD.out hle)
          have HRS := Aside0.mk (show rowTo step x q (e + 1) = if (step x e).2 then ((rowTo step x q e).1 ++ [(place (step x e).1 (rowTo step x q e).2 : Int)], ins (rowTo step x q e).2 (step x e).1) else ((rowTo step x q e).1 ++ [-1], (rowTo step x q e).2) from rfl)
          have HYD := Aside0.mk (HS.out x e HXD.out hle)
          have hqlen := Aside0.mk (Nat.le_trans (rowTo_mono (step := step) (x := x) (q := q) (e := e) (e' := n) (by omega)) hqm.out)
          have hqlen1 := Aside0.mk (Nat.le_trans (rowTo_mono (step := step) (x := x) (q := q) (e := e + 1) (e' := n) (by omega)) hqm.out)
          generalize (step x e).1 = y at *
          cases hok : (step x e).2 with
          | false =>
            simp only [hok, Bool.false_eq_true, if_false] at HRS hcall
            go_wp2_with fail
            refine hcall.out.mono ?_
            rintro E w3 ⟨rfl, hb⟩
            have HB3 := Aside0.mk (below_then HB2.out (HB2.out).size hb)
            have HM3 := Aside0.mk (MapIs.below HM2.out hb)
            have HQ3 := Aside0.mk (Kd.R_below HQ2.out hb)
            have HO3 := Aside0.mk (Kd.R_below HO2.out hb)
            have HR3 := Aside0.mk (Kd.R_below HR2.out hb)
            clear hb HB2 HM2 HQ2 HO2 HR2 hcall hxa hxb
            go_upto_region 13 with (fail)
            have HBX := below_alloc (Below.refl w3.heap.size w3) (.cells #[.int .i64 y.1, .int .i64 y.2] 56)
            have HB3 := Aside0.mk (below_then HB3.out (HB3.out).size HBX)
            have HM3 := Aside0.mk (MapIs.below HM3.out HBX)
            have HQ3 := Aside0.mk (Kd.R_below HQ3.out HBX)
            have HO3 := Aside0.mk (Kd.R_below HO3.out HBX)
            have HR3 := Aside0.mk (Kd.R_below HR3.out HBX)
            clear HBX
            generalize (w3.alloc (.cells #[.int .i64 y.1, .int .i64 y.2] 56)) = w3b at *
            go_wp2
            go_roundg (n - (e + 1))
            case measure => omega
            case rel =>
              refine ⟨e + 1, So2, Sq2, Sr, by omega, by omega, by go_num, HDJ2, HDR2, HDS2, HB3, ?_, ?_, HO3, ?_⟩
              · rw [HRS.out]; exact HM3
              · rw [HRS.out]; exact HQ3
              · rw [HRS.out]; exact HR3
          | true =>
            simp only [hok, if_true] at HRS hcall
            have HY := Aside0.mk (HYD.out hok)
            clear hok HYD
            go_wp2_with fail
            refine hcall.out.mono ?_
            rintro E w3 ⟨rfl, hb⟩
            have HB3 := Aside0.mk (below_then HB2.out (HB2.out).size hb)
            have HM3 := Aside0.mk (MapIs.below HM2.out hb)
            have HQ3 := Aside0.mk (Kd.R_below HQ2.out hb)
            have HO3 := Aside0.mk (Kd.R_below HO2.out hb)
            have HR3 := Aside0.mk (Kd.R_below HR2.out hb)
            clear hb HB2 HM2 HQ2 HO2 HR2 hcall hxa hxb
            go_upto_region 13 with (fail)
            have HBX := below_alloc (Below.refl w3.heap.size w3) (.cells #[.int .i64 y.1, .int .i64 y.2] 56)
            have HYB := Aside0.mk (blk_new w3 (.cells #[.int .i64 y.1, .int .i64 y.2] 56))
            have HB3 := Aside0.mk (below_then HB3.out (HB3.out).size HBX)
            have HM3 := Aside0.mk (MapIs.below HM3.out HBX)
            have HQ3 := Aside0.mk (Kd.R_below HQ3.out HBX)
            have HO3 := Aside0.mk (Kd.R_below HO3.out HBX)
            have HR3 := Aside0.mk (Kd.R_below HR3.out HBX)
            clear HBX
            generalize (w3.alloc (.cells #[.int .i64 y.1, .int .i64 y.2] 56)) = w3b at *
            generalize w3.heap.size = yb at *
            have hy0 : w3b.cell? ⟨yb, 0, none⟩ = some (.int .i64 y.1) := (blk_cell HYB.out 0).trans rfl
            have hy1 : w3b.cell? ⟨yb, 1, none⟩ = some (.int .i64 y.2) := (blk_cell HYB.out 1).trans rfl
            have hl : (Instr.lookup 96 (.map (some MB)) (.agg #[.int .i64 y.1, .int .i64 y.2]) true).run Try.prog w3b = _ := MapIs.look HM3.out keyPair Try.underlying96 (zero3 w3b) (HD.out y HY.out) true
            rw [mget_place] at hl
            have HRB := Aside0.mk (HR3.out.1 rb rfl)
            by_cases hmem : y ∈ (rowTo step x q e).2
            · simp only [hmem, if_true] at hl
              have HRS := Aside0.mk (HRS.out.trans (by rw [ins, if_pos hmem]))
              clear hmem
              generalize (rowTo step x q e).2 = qe at *
              generalize (place y qe) = kk at *
              have HPUT := Kd.R_putg HR3.out (e : Int) (kk : Int)
              rw [Int.toNat_natCast, set_last rowTo_len] at HPUT
              obtain ⟨hc1, hf1⟩ := Kd.R_celln 0 HR3.out (e : Int) (by omega) (by omega)
              rw [Int.toNat_natCast] at hc1 hf1
              have HPUT := Aside0.mk HPUT
              unfold encN at hl
              go_wp2
              go_roundg (n - (e + 1))
              case measure => omega
              case rel =>
                have hg4 := (HPUT.out).2
                refine ⟨e + 1, fun k => So2 k ∧ k < w3b.heap.size, fun k => Sq2 k ∧ k < w3b.heap.size, Sr, by omega, by omega, by go_num, ⟨(HDJ2.out).less w3b.heap.size⟩, ⟨fun k ha hb => HDR2.out k ha.1 hb⟩, ⟨fun k ha hb => HDS2.out k ha.1 hb⟩, ⟨pw_below_grown HB3.out _ (HB3.out).size hg4 (Kd.R_base HR3.out)⟩, ?_, ?_, ⟨R_stay HO3.out hg4 (fun k hk => by cases hk; exact fun h => HDR2.out _ h HRB.out)⟩, ?_⟩
                · rw [HRS.out]; exact ⟨MapIs.stay HM3.out HR3.out hg4⟩
                · rw [HRS.out]; exact ⟨R_stay HQ3.out hg4 (fun k hk => by cases hk; exact fun h => HDS2.out _ h HRB.out)⟩
                · rw [HRS.out]; exact ⟨(HPUT.out).1⟩
            · simp only [hmem, if_false] at hl
              have HRS := Aside0.mk (HRS.out.trans (by rw [ins, if_neg hmem, place_new hmem]))
              have HNEW := Aside0.mk (mput_zip hmem)
              rw [HRS.out] at hqlen1
              clear hmem
              generalize (rowTo step x q e).2 = qe at *
              obtain ⟨w4, hput0, HM4, hg4⟩ := MapIs.put HM3.out keyPair Try.underlying96 (HD.out y HY.out) qe.length
              have hput : (Instr.mapUpdate 96 (.map (some MB)) (.agg #[.int .i64 y.1, .int .i64 y.2]) (.int .i64 (qe.length : Int))).run Try.prog w3b = .ok () w4 := hput0
              clear hput0
              have HY4 := Aside0.mk (blk_grown HYB.out hg4 (fun e => by injection e with e; exact (HM3.out).ne_row HYB.out e))
              have hz0 : w4.cell? ⟨yb, 0, none⟩ = some (.int .i64 y.1) := (blk_cell HY4.out 0).trans rfl
              have hz1 : w4.cell? ⟨yb, 1, none⟩ = some (.int .i64 y.2) := (blk_cell HY4.out 1).trans rfl
              rw [HNEW.out] at HM4
              have HM4 := Aside0.mk HM4
              have HB4 := Aside0.mk (pw_below_grown HB3.out _ (HB3.out).size hg4 (fun k hk => by cases hk; exact HMB.out))
              have hmb : ∀ {α : Type} {d : Kd α} {e base : Nat} {S : Nat → Prop} {v : Value} {xs : List α}, d.R e w3b base S v xs → d.R e w4 base (fun k => S k ∧ k < w3b.heap.size) v xs := fun h =>
                Kd.R_mono (Kd.R_step (Kd.R_bound h) (fun k hk hlt => hg4.block k hlt (fun he => by
                  cases he
                  obtain ⟨_, _, _, q, _, cells, hc⟩ := hk
                  exact (HM3.out).ne_row hc rfl))) (fun k hk => ⟨hk.1, hk.2.2.1⟩)
              have HQ4 := Aside0.mk (hmb HQ3.out)
              have HO4 := Aside0.mk (hmb HO3.out)
              have HR4 := Aside0.mk (hmb HR3.out)
              have HDJ4 := Aside0.mk ((HDJ2.out).less w3b.heap.size)
              have HDR4 := Aside0.mk ((HDR2.out).less w3b.heap.size)
              have HDS4 := Aside0.mk ((HDS2.out).less w3b.heap.size)
              have HG4 := Aside0.mk hg4
              clear hmb HM3 HQ3 HO3 HR3 HDJ2 HDR2 HDS2 hg4 HRB HB3
              rw [if_pos trivial] at hl
              generalize (fun k => So2 k ∧ k < w3b.heap.size) = So4 at *
              generalize (fun k => Sq2 k ∧ k < w3b.heap.size) = Sq4 at *
              generalize (fun k => Sr k ∧ k < w3b.heap.size) = Sr4 at *
              have hlen5 : (qe.length + 1) * 16 ≤ 140737488355328 := by
                have := hqlen1.out
                simp only [List.length_append, List.length_singleton] at this
                omega
              go_wp2_with ((with_reducible refine gate_builtin (b := .append) (xs := #[.tmp 63, .tmp 65]) rfl ?_); at_builtin; refine Kd.R_append kP (w0 := w) w.heap.size rfl (.tmp 63) (.tmp 65) 60 56 (.agg #[.int .i64 0, .int .i64 0]) 16 rfl Try.underlying60 info56 rfl (by decide) (by omega) (.slice (some ad) qe.length c9) qe y [.int .i64 y.1, .int .i64 y.2] (fun k => Sq4 k ∨ w4.heap.size ≤ k) (fun _ => False) rfl rfl (M_pair _ _ _ y) (fun _ hk => hk.elim) (fun k hk => .inr hk) (Kd.R_mono HQ4.out (fun _ hk => .inl hk)) HB4.out (HB4.out).size hlen5 ?_; intro v5 w5 ho5 hb5 hg5 hat5; have HQ5 := Aside0.mk ho5; have HB5 := Aside0.mk hb5; have HM5 := Aside0.mk (MapIs.stay HM4.out HQ4.out hg5); have HO5 := Aside0.mk (R_stay HO4.out hg5 (fun k hk h => HDJ4.out k h (HQ4.out.1 k hk))); have HR5 := Aside0.mk (R_stay HR4.out hg5 (fun k hk h => HDS4.out k (HQ4.out.1 k hk) h)); clear ho5 hb5 hg5 hat5 HQ4 HB4 HM4; (obtain ⟨hc1, hf1⟩ := Kd.R_celln 0 HR5.out (e : Int) (by omega) (by omega)); rw [Int.toNat_natCast] at hc1 hf1)
              have HPUT := Kd.R_putg HR5.out (e : Int) (qe.length : Int)
              rw [Int.toNat_natCast, set_last rowTo_len] at HPUT
              have HPUT := Aside0.mk HPUT
              have HRB := Aside0.mk (HR5.out.1 rb rfl)
              go_roundg (n - (e + 1))
              case measure => omega
              case rel =>
                have hg6 := (HPUT.out).2
                have HDR5 := (HDR4.out).less w4.heap.size
                have HDJ5 := (HDJ4.out).symm.fresh w4.heap.size
                have HDS5 := (HDS4.out).fresh w4.heap.size
                refine ⟨e + 1, _, fun k => (Sq4 k ∨ w4.heap.size ≤ k) ∧ k < w5.heap.size, _, by omega, by omega, by go_num, ⟨fun k ha hb => HDJ5 k hb.1 ha.1⟩, ⟨fun k ha hb => HDR5 k ha.1 hb⟩, ⟨fun k ha hb => HDS5 k ha.1 hb⟩, ⟨pw_below_grown HB5.out _ (HB5.out).size hg6 (Kd.R_base HR5.out)⟩, ?_, ?_, ⟨R_stay HO5.out hg6 (fun k hk => by cases hk; exact fun h => HDR5 _ h HRB.out)⟩, ?_⟩
                · rw [HRS.out]; exact ⟨MapIs.stay HM5.out HR5.out hg6⟩
                · rw [HRS.out]; exact ⟨R_stay HQ5.out hg6 (fun k hk => by cases hk; exact fun h => HDS5 _ h HRB.out)⟩
                · rw [HRS.out]; exact ⟨(HPUT.out).1⟩
        · have hlez : ¬ (e : Int) < (n : Int) := by omega
          obtain rfl : e = n := by omega
          obtain ⟨A9, c9, rfl⟩ := Kd.R_slice HQ.out
          rw [Nat.sub_self, List.replicate_zero, List.append_nil] at HR
          have hlo : (o.length + 1) * 24 ≤ 140737488355328 := by have := HOL.out; omega
          go_wp2_with ((with_reducible refine gate_builtin (b := .append) (xs := #[.tmp 72, .tmp 74]) rfl ?_); at_builtin; refine Kd.R_append (Kd.slice 3 (Kd.int .i64)) (w0 := w) w.heap.size rfl (.tmp 72) (.tmp 74) 67 25 (.slice none 0 0) 24 rfl Try.underlying67 info25 rfl (by decide) (by omega) (.slice A10 o.length c10) o (rowTo step x q e).1 [.slice (some ⟨rb, 0, none⟩) e capr] (fun k => (So k ∨ Sr k) ∨ wr.heap.size ≤ k) Sr rfl rfl ⟨_, rfl, HR.out⟩ (fun k hk => ⟨.inl (.inr hk), fun he => HDR.out k (HO.out.1 k he.symm) hk⟩) (fun k hk => .inr hk) (Kd.R_mono HO.out (fun _ hk => .inl (.inl hk))) HB.out (HB.out).size hlo ?_; intro v5 w5 ho5 hb5 hg5 hat5; have HO5 := Aside0.mk ho5; have HB5 := Aside0.mk hb5; have HM5 := Aside0.mk (MapIs.stay HM.out HO.out hg5); have HQ5 := Aside0.mk (R_stay HQ.out hg5 (fun k hk h => HDJ.out k (HO.out.1 k hk) h)); clear ho5 hb5 hg5 hat5 HO HB HM HQ HR)
          go_roundg (m - (i + 1))
          case measure => omega
          case rel =>
            refine ⟨i + 1, fun k => (So k ∨ Sr k) ∨ wr.heap.size ≤ k, fun k => Sq k ∧ k < wr.heap.size, him2, by omega, by go_num, ?_, HB5, ?_, ?_, ?_⟩
            rotate_left 1
            · rw [HST.out]; exact HM5
            · rw [HST.out]; exact HQ5
            · rw [HST.out]; exact HO5
            · refine ⟨fun k ha hb => ?_⟩
              rcases ha with (ha | ha) | ha
              · exact HDJ.out k ha hb.1
              · exact HDS.out k hb.1 ha
              · have := hb.2; omega
    · have hltz : ¬ (i : Int) < ((bfsTo n step start i).2.length : Int) := by omega
      have HFin := Aside0.mk (show bfsTo n step start m = bfsTo n step start i by
        have := bfsTo_stays (n := n) (step := step) (start := start) hlt (m - i)
        rwa [show i + (m - i) = m from by omega] at this)
      clear hmono
      generalize hq : (bfsTo n step start i) = bi at *
      clear hq
      go_wp2
      go_ret2
      refine ⟨_, _, So, Sq, rfl, HDJ.out, ?_, ?_, HB.out⟩
      · rw [HFin.out]; exact HO.out
      · rw [HFin.out]; exact HQ.out
end Go.Proofs.Ytmphigeefppfpaa.H
namespace Go.Proofs.Ytmphigeefppfpaa.H
open Go.RowKit Go.Proofs.YtmphigeefppfpaaW.PrintWords Go.Proofs.YtmphigeefppfpaaW.PrintLast Go.Proofs.YtmphigeefppfpaaW.PrintMore
set_option linter.unusedVariables false
def nextB (l : List (List Int)) (q e : Int) : Int := if q < 0 then -1 else stepAt l q e
def domN (l : List (List Int)) (q : Int) : Prop := -1 ≤ q ∧ q < (l.length : Int)
theorem nextB_dom {ev st : Int} {l : List (List Int)} (hs : specOk ev st l = true) {q e : Int} (hq : domN l q) (h0 : 0 ≤ e) (h1 : e < ev) : domN l (nextB l q e) := by
  unfold nextB
  split
  · exact ⟨by omega, by have := (spec_table hs).2.2.2.2.1; omega⟩
  · exact stepAt_range hs (by omega) hq.2 h0 h1
theorem next_val {ev st : Int} {l : List (List Int)} (hs : specOk ev st l = true) {q e : Int} (hq : domN l q) (h0 : 0 ≤ e) (h1 : e < ev) : Q.spec_next.f ev st l q e = some (nextB l q e) := by
  unfold Q.spec_next.f nextB stepAt
  by_cases hn : q < 0
  · rw [if_pos hn, if_pos hn]
  · have hl := (specOk_row hs (q := q) (by omega) hq.2).1
    rw [if_neg hn, if_neg hn, if_pos (by omega), if_pos hq.2, if_pos h0, if_pos (by omega)]
theorem next_calls {ev st : Int} {l : List (List Int)} (hs : specOk ev st l = true) {q e : Int} (hq : domN l q) (h0 : 0 ≤ e) (h1 : e < ev) (A : Option Addr) (c : Nat) (w : World) (hr : Kd.C (Kd.slice 3 (Kd.int .i64)) w A l.length l) (hc : l.length ≤ c) :
    Calls Try.prog 44 #[.agg #[.int .i64 ev, .int .i64 st, .slice A l.length c], .int .i64 q, .int .i64 e] w fun E w' => E = .returned (.int .i64 (nextB l q e)) ∧ Below w.heap.size w w' :=
  Q.spec_next.calls ev st A c l q e _ w hr hc (next_val hs hq h0 h1)
def MayW (g : Nat) (may : Int → Int → Bool) : Prop := ∀ W x y, Calls Try.prog g #[.int .i64 x, .int .i64 y] W fun E w' => E = .returned (.bool (may x y)) ∧ Below W.heap.size W w'
structure PB (w W : World) (ba bb bf g : Nat) (va vb : Array Value) (x : Int × Int) : Prop where
  hb : Below w.heap.size w W
  ha : W.heap[ba]? = some (.cells va 24 (0, 0))
  hbb : W.heap[bb]? = some (.cells vb 24 (0, 0))
  hf : W.heap[bf]? = some (.cells #[.func (.func g) #[] #[]] 71 (0, 0))
  hx : W.heap[w.heap.size]? = some (.cells #[.int .i64 x.1, .int .i64 x.2] 56 (0, 0))
  hr : W.heap[w.heap.size + 1]? = some (.cells #[.int .i64 0, .int .i64 0] 56 (0, 0))
section
variable {w W W1 : World} {ba bb bf g : Nat} {va vb : Array Value} {x : Int × Int} {a b c d e f : Value}
theorem PB.below (h : PB w W ba bb bf g va vb x) (hb : Below W.heap.size W W1) : PB w W1 ba bb bf g va vb x := ⟨below_then h.hb h.hb.size hb, blk_below h.ha hb, blk_below h.hbb hb, blk_below h.hf hb, blk_below h.hx hb, blk_below h.hr hb⟩
theorem PB.top (h : PB w W ba bb bf g va vb x) : w.heap.size + 1 < W.heap.size := (Array.getElem?_eq_some_iff.1 h.hr).1
theorem PB.put2 {b9 : Nat} {cells : Array Value} (h : PB w W ba bb bf g va vb x) (h9 : W.heap[b9]? = some (.cells cells 56 (0, 0))) (hb9 : w.heap.size + 1 < b9) (u v : Value) : PB w ((W.setCell ⟨b9, 0, none⟩ u).setCell ⟨b9, 1, none⟩ v) ba bb bf g va vb x := by
  have g1 := grown_setCell W ⟨b9, 0, none⟩ u
  have g2 := grown_setCell (W.setCell ⟨b9, 0, none⟩ u) ⟨b9, 1, none⟩ v
  have hne : ∀ {k : Nat} {cs : Array Value} {T : TypeId}, W.heap[k]? = some (.cells cs T (0, 0)) → T ≠ 56 → some k ≠ some b9 := fun hk hT e => by injection e with e; exact blk_ne hk h9 hT e
  have hn1 : some w.heap.size ≠ some b9 := fun e => by injection e with e; omega
  have hn2 : some (w.heap.size + 1) ≠ some b9 := fun e => by injection e with e; omega
  exact ⟨pw_below_grown (pw_below_grown h.hb _ h.hb.size g1 (fun k hk => by cases hk; show w.heap.size ≤ b9; omega)) _ (Nat.le_trans h.hb.size g1.size) g2 (fun k hk => by cases hk; show w.heap.size ≤ b9; omega),
    blk_grown (blk_grown h.ha g1 (hne h.ha (by decide))) g2 (hne h.ha (by decide)), blk_grown (blk_grown h.hbb g1 (hne h.hbb (by decide))) g2 (hne h.hbb (by decide)), blk_grown (blk_grown h.hf g1 (hne h.hf (by decide))) g2 (hne h.hf (by decide)), blk_grown (blk_grown h.hx g1 hn1) g2 hn1, blk_grown (blk_grown h.hr g1 hn2) g2 hn2⟩
theorem PB.pairc {b9 : Nat} (h : PB w W ba bb bf g va vb x) (h9 : W.heap[b9]? = some (.cells #[a, b] 56 (0, 0))) : (W.cell? ⟨b9, 0, none⟩ = some a ∧ W.cell? ⟨b9, 1, none⟩ = some b) ∧ W.cell? ⟨bf, 0, none⟩ = some (.func (.func g) #[] #[]) :=
  ⟨⟨(blk_cell h9 0).trans rfl, (blk_cell h9 1).trans rfl⟩, (blk_cell h.hf 0).trans rfl⟩
def outP (w W : World) (u v : Value) : World := (W.setCell ⟨w.heap.size + 1, 0, none⟩ u).setCell ⟨w.heap.size + 1, 1, none⟩ v
theorem PB.pairo {b9 : Nat} (h : PB w W ba bb bf g va vb x) (h9 : W.heap[b9]? = some (.cells #[a, b] 56 (0, 0))) (hb9 : w.heap.size + 1 < b9) (u v : Value) : ((outP w W u v).cell? ⟨b9, 0, none⟩ = some a ∧ (outP w W u v).cell? ⟨b9, 1, none⟩ = some b) ∧ (outP w W u v).cell? ⟨bf, 0, none⟩ = some (.func (.func g) #[] #[]) := by
  have g1 := grown_setCell W ⟨w.heap.size + 1, 0, none⟩ u
  have g2 := grown_setCell (W.setCell ⟨w.heap.size + 1, 0, none⟩ u) ⟨w.heap.size + 1, 1, none⟩ v
  have n9 : some b9 ≠ some (w.heap.size + 1) := fun e => by injection e with e; omega
  have nf : some bf ≠ some (w.heap.size + 1) := fun e => by injection e with e; exact blk_ne h.hf h.hr (by decide) e
  have k9 := blk_grown (blk_grown h9 g1 n9) g2 n9
  have kf := blk_grown (blk_grown h.hf g1 nf) g2 nf
  exact ⟨⟨(blk_cell k9 0).trans rfl, (blk_cell k9 1).trans rfl⟩, (blk_cell kf 0).trans rfl⟩
theorem PB.out (h : PB w W ba bb bf g va vb x) (u v : Value) : (outP w W u v).heap[w.heap.size + 1]? = some (.cells #[u, v] 56 (0, 0)) ∧ Below w.heap.size w (outP w W u v) := by
  have g1 := grown_setCell W ⟨w.heap.size + 1, 0, none⟩ u
  have g2 := grown_setCell (W.setCell ⟨w.heap.size + 1, 0, none⟩ u) ⟨w.heap.size + 1, 1, none⟩ v
  exact ⟨blk_set (blk_set h.hr 0 u) 1 v, pw_below_grown (pw_below_grown h.hb _ h.hb.size g1 (fun k hk => by cases hk; exact Nat.le_succ _)) _ (Nat.le_trans h.hb.size g1.size) g2 (fun k hk => by cases hk; exact Nat.le_succ _)⟩
theorem PB.cells (h : PB w W ba bb bf g #[a, b, c] #[d, e, f] x) : ((W.cell? ⟨ba, 0, none⟩ = some a ∧ W.cell? ⟨ba, 1, none⟩ = some b ∧ W.cell? ⟨ba, 2, none⟩ = some c) ∧ (W.cell? ⟨bb, 0, none⟩ = some d ∧ W.cell? ⟨bb, 1, none⟩ = some e ∧ W.cell? ⟨bb, 2, none⟩ = some f)) ∧ (W.cell? ⟨w.heap.size, 0, none⟩ = some (.int .i64 x.1) ∧ W.cell? ⟨w.heap.size, 1, none⟩ = some (.int .i64 x.2)) :=
  ⟨⟨⟨(blk_cell h.ha 0).trans rfl, (blk_cell h.ha 1).trans rfl, (blk_cell h.ha 2).trans rfl⟩, (blk_cell h.hbb 0).trans rfl, (blk_cell h.hbb 1).trans rfl, (blk_cell h.hbb 2).trans rfl⟩, (blk_cell h.hx 0).trans rfl, (blk_cell h.hx 1).trans rfl⟩
end
set_option maxHeartbeats 4000000 in
theorem step_calls (g : Nat) (may : Int → Int → Bool) (hm : MayW g may) (ev sa sb : Int) (A B : Option Addr) (ca cb : Nat) (la lb : List (List Int)) (ba bb bf : Nat) (x : Int × Int) (e : Nat) (w : World)
    (hsa : specOk ev sa la = true) (hsb : specOk ev sb lb = true) (hx : domN la x.1 ∧ domN lb x.2) (he : (e : Int) < ev)
    (ha : w.heap[ba]? = some (.cells #[.int .i64 ev, .int .i64 sa, .slice A la.length ca] 24 (0, 0))) (hb : w.heap[bb]? = some (.cells #[.int .i64 ev, .int .i64 sb, .slice B lb.length cb] 24 (0, 0))) (hf : w.heap[bf]? = some (.cells #[.func (.func g) #[] #[]] 71 (0, 0)))
    (hra : Kd.C (Kd.slice 3 (Kd.int .i64)) w A la.length la) (hca : la.length ≤ ca) (hrb : Kd.C (Kd.slice 3 (Kd.int .i64)) w B lb.length lb) (hcb : lb.length ≤ cb)
    (eg : ∀ args w, (callFunc g args).run Try.prog w = .ok (.enter g args) w) :
    Calls Try.prog 68 #[.agg #[.int .i64 x.1, .int .i64 x.2], .int .i64 e, .pointer (some ⟨ba, 0, none⟩), .pointer (some ⟨bb, 0, none⟩), .pointer (some ⟨bf, 0, none⟩)] w fun E w' =>
      E = .returned (.tuple #[.agg #[.int .i64 (nextB la x.1 e), .int .i64 (nextB lb x.2 e)], .bool (may (nextB la x.1 e) (nextB lb x.2 e))]) ∧ Below w.heap.size w w' := by
  have H1 := Aside0.mk fun W (hW : Below w.heap.size w W) => next_calls hsa hx.1 (Int.natCast_nonneg e) he A ca W (Kd.C_below hra hW) hca
  have H2 := Aside0.mk fun W (hW : Below w.heap.size w W) => next_calls hsb hx.2 (Int.natCast_nonneg e) he B cb W (Kd.C_below hrb hW) hcb
  have H3 := Aside0.mk (show ∀ W x y, Calls Try.prog g #[.int .i64 x, .int .i64 y] W fun E w' => E = .returned (.bool (may x y)) ∧ Below W.heap.size W w' from hm)
  have HS0 := Aside0.mk (PB.mk (w := w) (W := (w.alloc (.cells #[.int .i64 x.1, .int .i64 x.2] 56)).alloc (.cells #[.int .i64 0, .int .i64 0] 56)) (x := x) (below_alloc (below_alloc (Below.refl _ _) _) _) (blk_alloc (blk_alloc ha _) _) (blk_alloc (blk_alloc hb _) _) (blk_alloc (blk_alloc hf _) _) (blk_alloc (blk_new _ _) _) (blk_at2 _ _ _))
  clear hsa hsb hx he ha hb hf hra hca hrb hcb hm
  generalize nextB la x.1 e = y1 at *
  generalize nextB lb x.2 e = y2 at *
  go_enter Try.func68, Try.ntmps68
  go_upto_region 1 with (fail)
  generalize ((w.alloc (.cells #[.int .i64 x.1, .int .i64 x.2] 56)).alloc (.cells #[.int .i64 0, .int .i64 0] 56)) = w0 at *
  have HS := (HS0.out).below (W1 := w0.drew) (below_drew (Below.refl _ _))
  go_region_held3 (fun w' => ((w'.cell? ⟨ba, 0, none⟩ = some (.int .i64 ev) ∧ w'.cell? ⟨ba, 1, none⟩ = some (.int .i64 sa) ∧ w'.cell? ⟨ba, 2, none⟩ = some (.slice A la.length ca)) ∧ (w'.cell? ⟨bb, 0, none⟩ = some (.int .i64 ev) ∧ w'.cell? ⟨bb, 1, none⟩ = some (.int .i64 sb) ∧ w'.cell? ⟨bb, 2, none⟩ = some (.slice B lb.length cb))) ∧ (w'.cell? ⟨w.heap.size, 0, none⟩ = some (.int .i64 x.1) ∧ w'.cell? ⟨w.heap.size, 1, none⟩ = some (.int .i64 x.2)))
    (first | exact HS.cells | exact HS1.cells | exact HS2.cells | exact PB.cells (HS2.put2 HN2 HT _ _) | exact PB.cells (PB.below HS0.out (below_drew (below_alloc (Below.refl w0.heap.size w0) (.cells #[.int .i64 0, .int .i64 0] 56)))) | exact PB.cells (PB.below HS1 (below_alloc (Below.refl _ _) _)) | exact PB.cells (PB.below HS2 (below_alloc (Below.refl _ _) _)) | fail)
    (first
      | (go_at_call 44; (first | (with_reducible refine (H1.out _ HS.hb).mono ?_) | (have HN : ((w0.alloc (.cells #[.int .i64 0, .int .i64 0] 56)).drew).heap[w0.heap.size]? = some (.cells #[.int .i64 0, .int .i64 0] 56 (0, 0)) := blk_drew (blk_new w0 _); have HT : w.heap.size + 1 < w0.heap.size := (HS0.out).top; have HS := (HS0.out).below (below_drew (below_alloc (Below.refl w0.heap.size w0) (.cells #[.int .i64 0, .int .i64 0] 56))); with_reducible refine (H1.out _ HS.hb).mono ?_)); rintro E w1 ⟨rfl, hb⟩; have HS1 := HS.below hb; (try have HN1 := blk_below HN hb); clear hb; (try clear HN); clear HS)
      | (go_at_call 44; (first | (with_reducible refine (H2.out _ HS1.hb).mono ?_) | (have HN1 : (w1.alloc (.cells #[.int .i64 0, .int .i64 0] 56)).heap[w1.heap.size]? = some (.cells #[.int .i64 0, .int .i64 0] 56 (0, 0)) := blk_new w1 _; have HT : w.heap.size + 1 < w1.heap.size := HS1.top; have HS1 := HS1.below (below_alloc (Below.refl _ _) (.cells #[.int .i64 0, .int .i64 0] 56)); with_reducible refine (H2.out _ HS1.hb).mono ?_)); rintro E w2 ⟨rfl, hb⟩; have HS2 := HS1.below hb; (try have HN2 := blk_below HN1 hb); clear hb; (try clear HN1); clear HS1; (try (have hk0 := (blk_cell HN2 0).trans rfl; have hk1 := (blk_cell HN2 1).trans rfl; have hf0 := blk_frozen HN2 0; have hf1 := blk_frozen HN2 1)))
      | fail)
  all_goals clear H1 H2 HS0
  · have HY := Aside0.mk (blk_new w2 (.cells #[.int .i64 y1, .int .i64 y2] 56))
    have HS3 := HS2.below (below_alloc (Below.refl w2.heap.size w2) (.cells #[.int .i64 y1, .int .i64 y2] 56))
    have HT := HS2.top
    clear HS2
    generalize (w2.alloc (.cells #[.int .i64 y1, .int .i64 y2] 56)) = w3 at *
    generalize w2.heap.size = b9 at *
    have HS4 := HS3.below (W1 := w3.drew) (below_drew (Below.refl _ _))
    have HY4 := blk_drew HY.out
    clear HS3 HY
    go_wp2
    go_region_held3 (fun w' => (w'.cell? ⟨b9, 0, none⟩ = some (.int .i64 y1) ∧ w'.cell? ⟨b9, 1, none⟩ = some (.int .i64 y2)) ∧ w'.cell? ⟨bf, 0, none⟩ = some (.func (.func g) #[] #[]))
      (first | exact PB.pairc HS4 HY4 | exact PB.pairc HS5 HY5 | exact PB.pairo HS5 HY5 HT _ _ | fail)
      (first | ((with_reducible refine (H3.out _ _ _).mono ?_); rintro E w4 ⟨rfl, hb⟩; have HS5 := HS4.below hb; have HY5 := blk_below HY4 hb; have hk0 := (blk_cell HS5.hr 0).trans rfl; have hk1 := (blk_cell HS5.hr 1).trans rfl; have hf0 := blk_frozen HS5.hr 0; have hf1 := blk_frozen HS5.hr 1; clear hb HS4 HY4) | fail)
    clear hk0 hk1 hf0 hf1
    obtain ⟨hblk, hbl⟩ := HS5.out (.int .i64 y1) (.int .i64 y2)
    unfold outP at hblk hbl
    go_wp2
    refine bodyPost_ret (results_row_tmp rfl _ _ (w.heap.size + 1) 56 #[.int .i64 y1, .int .i64 y2] (0, 0) _ rfl hblk Try.underlying56 rfl (by kernel_rfl)) rfl ?_
    exact ⟨rfl, hbl⟩
  · have HY := Aside0.mk (show ((w2.setCell ⟨w1.heap.size, 0, none⟩ (.int .i64 y1)).setCell ⟨w1.heap.size, 1, none⟩ (.int .i64 y2)).heap[w1.heap.size]? = some (.cells #[.int .i64 y1, .int .i64 y2] 56 (0, 0)) from blk_set (blk_set HN2 0 (.int .i64 y1)) 1 (.int .i64 y2))
    have HS3 := HS2.put2 HN2 HT (.int .i64 y1) (.int .i64 y2)
    clear HS2 HN2 hk0 hk1 hf0 hf1
    generalize ((w2.setCell ⟨w1.heap.size, 0, none⟩ (.int .i64 y1)).setCell ⟨w1.heap.size, 1, none⟩ (.int .i64 y2)) = w3 at *
    generalize w1.heap.size = b9 at *
    have HS4 := HS3.below (W1 := w3.drew) (below_drew (Below.refl _ _))
    have HY4 := blk_drew HY.out
    clear HS3 HY
    go_wp2
    go_region_held3 (fun w' => (w'.cell? ⟨b9, 0, none⟩ = some (.int .i64 y1) ∧ w'.cell? ⟨b9, 1, none⟩ = some (.int .i64 y2)) ∧ w'.cell? ⟨bf, 0, none⟩ = some (.func (.func g) #[] #[]))
      (first | exact PB.pairc HS4 HY4 | exact PB.pairc HS5 HY5 | exact PB.pairo HS5 HY5 HT _ _ | fail)
      (first | ((with_reducible refine (H3.out _ _ _).mono ?_); rintro E w4 ⟨rfl, hb⟩; have HS5 := HS4.below hb; have HY5 := blk_below HY4 hb; have hk0 := (blk_cell HS5.hr 0).trans rfl; have hk1 := (blk_cell HS5.hr 1).trans rfl; have hf0 := blk_frozen HS5.hr 0; have hf1 := blk_frozen HS5.hr 1; clear hb HS4 HY4) | fail)
    clear hk0 hk1 hf0 hf1
    obtain ⟨hblk, hbl⟩ := HS5.out (.int .i64 y1) (.int .i64 y2)
    unfold outP at hblk hbl
    go_wp2
    refine bodyPost_ret (results_row_tmp rfl _ _ (w.heap.size + 1) 56 #[.int .i64 y1, .int .i64 y2] (0, 0) _ rfl hblk Try.underlying56 rfl (by kernel_rfl)) rfl ?_
    exact ⟨rfl, hbl⟩
  · have HY := Aside0.mk (show ((w2.setCell ⟨w0.heap.size, 0, none⟩ (.int .i64 y1)).setCell ⟨w0.heap.size, 1, none⟩ (.int .i64 y2)).heap[w0.heap.size]? = some (.cells #[.int .i64 y1, .int .i64 y2] 56 (0, 0)) from blk_set (blk_set HN2 0 (.int .i64 y1)) 1 (.int .i64 y2))
    have HS3 := HS2.put2 HN2 HT (.int .i64 y1) (.int .i64 y2)
    clear HS2 HN2 hk0 hk1 hf0 hf1
    generalize ((w2.setCell ⟨w0.heap.size, 0, none⟩ (.int .i64 y1)).setCell ⟨w0.heap.size, 1, none⟩ (.int .i64 y2)) = w3 at *
    generalize w0.heap.size = b9 at *
    have HS4 := HS3.below (W1 := w3.drew) (below_drew (Below.refl _ _))
    have HY4 := blk_drew HY.out
    clear HS3 HY
    go_wp2
    go_region_held3 (fun w' => (w'.cell? ⟨b9, 0, none⟩ = some (.int .i64 y1) ∧ w'.cell? ⟨b9, 1, none⟩ = some (.int .i64 y2)) ∧ w'.cell? ⟨bf, 0, none⟩ = some (.func (.func g) #[] #[]))
      (first | exact PB.pairc HS4 HY4 | exact PB.pairc HS5 HY5 | exact PB.pairo HS5 HY5 HT _ _ | fail)
      (first | ((with_reducible refine (H3.out _ _ _).mono ?_); rintro E w4 ⟨rfl, hb⟩; have HS5 := HS4.below hb; have HY5 := blk_below HY4 hb; have hk0 := (blk_cell HS5.hr 0).trans rfl; have hk1 := (blk_cell HS5.hr 1).trans rfl; have hf0 := blk_frozen HS5.hr 0; have hf1 := blk_frozen HS5.hr 1; clear hb HS4 HY4) | fail)
    clear hk0 hk1 hf0 hf1
    obtain ⟨hblk, hbl⟩ := HS5.out (.int .i64 y1) (.int .i64 y2)
    unfold outP at hblk hbl
    go_wp2
    refine bodyPost_ret (results_row_tmp rfl _ _ (w.heap.size + 1) 56 #[.int .i64 y1, .int .i64 y2] (0, 0) _ rfl hblk Try.underlying56 rfl (by kernel_rfl)) rfl ?_
    exact ⟨rfl, hbl⟩
end Go.Proofs.Ytmphigeefppfpaa.H
namespace Go.Proofs.Ytmphigeefppfpaa.H
open Go.RowKit Go.Proofs.YtmphigeefppfpaaW.PrintWords Go.Proofs.YtmphigeefppfpaaW.PrintLast Go.Proofs.YtmphigeefppfpaaW.PrintMore
set_option linter.unusedVariables false
structure Bx (w W : World) (bs : List (Nat × Array Value)) (cs : List (Option Addr × List (List Int))) : Prop where
  hb : Below w.heap.size w W
  hx : ∀ p ∈ bs, W.heap[p.1]? = some (.cells p.2 24 (0, 0))
  hc : ∀ p ∈ cs, Kd.C (Kd.slice 3 (Kd.int .i64)) W p.1 p.2.length p.2
section
variable {w W W1 : World} {bs : List (Nat × Array Value)} {cs : List (Option Addr × List (List Int))}
theorem Bx.start (w : World) : Bx w w [] [] := ⟨Below.refl _ _, fun p hp => absurd hp List.not_mem_nil, fun p hp => absurd hp List.not_mem_nil⟩
theorem Bx.below (h : Bx w W bs cs) (hb : Below W.heap.size W W1) : Bx w W1 bs cs := ⟨below_then h.hb h.hb.size hb, fun p hp => blk_below (h.hx p hp) hb, fun p hp => Kd.C_below (h.hc p hp) hb⟩
theorem Bx.alloc (h : Bx w W bs cs) (v : Array Value) : Bx w (W.alloc (.cells v 24)) ((W.heap.size, v) :: bs) cs := by
  have h1 := h.below (below_alloc (Below.refl W.heap.size W) (.cells v 24))
  refine ⟨h1.hb, fun p hp => ?_, h1.hc⟩
  rcases List.mem_cons.1 hp with rfl | hp
  · exact blk_new W _
  · exact h1.hx p hp
theorem Bx.rows (h : Bx w W bs cs) {A : Option Addr} {l : List (List Int)} (hc : Kd.C (Kd.slice 3 (Kd.int .i64)) W A l.length l) : Bx w W bs ((A, l) :: cs) :=
  ⟨h.hb, h.hx, fun p hp => by
    rcases List.mem_cons.1 hp with rfl | hp
    · exact hc
    · exact h.hc p hp⟩
theorem Bx.cell (h : Bx w W bs cs) {b : Nat} {x y z : Value} (hp : (b, #[x, y, z]) ∈ bs) : W.cell? ⟨b, 0, none⟩ = some x ∧ W.cell? ⟨b, 1, none⟩ = some y ∧ W.cell? ⟨b, 2, none⟩ = some z :=
  ⟨(blk_cell (h.hx _ hp) 0).trans rfl, (blk_cell (h.hx _ hp) 1).trans rfl, (blk_cell (h.hx _ hp) 2).trans rfl⟩
theorem mem1 {α : Type} {a b : α} {l : List α} : b ∈ a :: b :: l := List.mem_cons_of_mem _ List.mem_cons_self
theorem Bx.spec {err n st : Int} {rows : List (List Int)} {E : Ending} (h : Bx w W bs cs) (he : SpecEnd err n st rows W E W1) : ∃ (A : Option Addr) (c : Nat), rows.length ≤ c ∧ E = .returned (.tuple #[.agg #[.int .i64 n, .int .i64 st, .slice A rows.length c], .int .i64 err]) ∧ Bx w W1 bs ((A, rows) :: cs) := by
  obtain ⟨A, c, So, rfl, hR, hb⟩ := he
  have h1 := Kd.R_reads' hR
  exact ⟨A, c, h1.2.1, rfl, (h.below hb).rows h1.2.2⟩
end
end Go.Proofs.Ytmphigeefppfpaa.H
namespace Go.Proofs.Ytmphigeefppfpaa.H
open Go.RowKit Go.Proofs.YtmphigeefppfpaaW.PrintWords Go.Proofs.YtmphigeefppfpaaW.PrintLast Go.Proofs.YtmphigeefppfpaaW.PrintMore
set_option linter.unusedVariables false
section
variable {α : Type} [DecidableEq α] {n N : Nat} {step : α → Nat → α × Bool} {start : α}
theorem table_ok' (h : (bfsTo n step start N).2.length ≤ N) : graphOk n (bfsTo n step start N).1 ∧ 1 ≤ (bfsTo n step start N).1.length ∧ (bfsTo n step start N).1.length ≤ N := by
  obtain ⟨hl, ⟨r, hr⟩, hrow⟩ := bfs_done h
  refine ⟨fun row hm => ?_, by rw [hl, hr]; simp, by omega⟩
  obtain ⟨i, hi, rfl⟩ := List.getElem_of_mem hm
  have hi2 : i < (bfsTo n step start N).2.length := by omega
  obtain ⟨h1, h2⟩ := hrow i _ (List.getElem?_eq_getElem hi2)
  rw [List.getD_eq_getElem?_getD, List.getElem?_eq_getElem hi] at h1 h2
  simp only [Option.getD_some] at h1 h2
  refine ⟨h1, fun v hv => ?_⟩
  obtain ⟨e, he, rfl⟩ := List.getElem_of_mem hv
  have h3 := h2 e (by omega)
  rw [List.getD_eq_getElem?_getD, List.getElem?_eq_getElem he] at h3
  simp only [Option.getD_some] at h3
  unfold Right at h3
  split at h3
  · have := place_mem.1 h3.1
    omega
  · omega
end
def stepQ (la lb : List (List Int)) (may : Int → Int → Bool) (x : Int × Int) (e : Nat) : (Int × Int) × Bool := ((nextB la x.1 e, nextB lb x.2 e), may (nextB la x.1 e) (nextB lb x.2 e))
def pairs (la lb : List (List Int)) : Nat := (la.length + 1) * (lb.length + 1)
def domQ (la lb : List (List Int)) (x : Int × Int) : Prop := domN la x.1 ∧ domN lb x.2
theorem code_lt {a b u v : Nat} (ha : a < u) (hb : b < v) : a * v + b < u * v := by
  calc a * v + b < a * v + v := by omega
    _ = (a + 1) * v := by rw [Nat.add_mul, Nat.one_mul]
    _ ≤ u * v := Nat.mul_le_mul_right _ ha
theorem code_inj {a b a' b' v : Nat} (hb : b < v) (hb' : b' < v) (h : a * v + b = a' * v + b') : a = a' ∧ b = b' := by
  have h1 : (a * v + b) / v = a := by rw [Nat.mul_comm, Nat.mul_add_div (by omega), Nat.div_eq_of_lt hb, Nat.add_zero]
  have h2 : (a' * v + b') / v = a' := by rw [Nat.mul_comm, Nat.mul_add_div (by omega), Nat.div_eq_of_lt hb', Nat.add_zero]
  have h3 : a = a' := by rw [← h1, ← h2, h]
  subst h3
  exact ⟨rfl, by omega⟩
theorem bfs_pairs {n : Nat} {la lb : List (List Int)} {step : Int × Int → Nat → (Int × Int) × Bool} {start : Int × Int} (hstep : ∀ x e, domQ la lb x → e < n → (step x e).2 = true → domQ la lb (step x e).1) (h0 : domQ la lb start) (m : Nat) : (bfsTo n step start m).2.length ≤ pairs la lb := by
  have hD := bfsTo_all (n := n) hstep h0 m
  have hN := bfsTo_nodup (n := n) (step := step) (start := start) m
  let f : Int × Int → Nat := fun x => (x.1 + 1).toNat * (lb.length + 1) + (x.2 + 1).toNat
  have h2 : ((bfsTo n step start m).2.map f).Nodup := by
    refine List.Pairwise.map _ ?_ (List.Pairwise.imp_of_mem (R := fun a b => a ≠ b) (S := fun a b => f a ≠ f b) ?_ hN)
    · exact fun a b h => h
    · intro a b ha hb hne he
      obtain ⟨⟨a1, a2⟩, a3, a4⟩ := hD a ha
      obtain ⟨⟨b1, b2⟩, b3, b4⟩ := hD b hb
      obtain ⟨e1, e2⟩ := code_inj (by omega) (by omega) he
      exact hne (Prod.ext (by omega) (by omega))
  have h3 := h2.length_le_of_subset (l₂ := List.range (pairs la lb)) (fun x hx => by
    obtain ⟨a, ha, rfl⟩ := List.mem_map.1 hx
    obtain ⟨⟨a1, a2⟩, a3, a4⟩ := hD a ha
    exact List.mem_range.2 (code_lt (by omega) (by omega)))
  simpa using h3
theorem stepQ_dom {ev sa sb : Int} {la lb : List (List Int)} {may : Int → Int → Bool} (ha : specOk ev sa la = true) (hb : specOk ev sb lb = true) (x : Int × Int) (e : Nat) (hx : domQ la lb x) (he : e < ev.toNat) (_ : (stepQ la lb may x e).2 = true) : domQ la lb (stepQ la lb may x e).1 :=
  ⟨nextB_dom ha hx.1 (by omega) (by omega), nextB_dom hb hx.2 (by omega) (by omega)⟩
def prodB (ev sa sb : Int) (la lb : List (List Int)) (may : Int → Int → Bool) : List (List Int) × List (Int × Int) := bfsTo ev.toNat (stepQ la lb may) (sa, sb) (pairs la lb)
theorem spec_domN {ev st : Int} {l : List (List Int)} (h : specOk ev st l = true) : domN l st := by
  have := (spec_table h).2.1
  exact ⟨by have := this.1; omega, this.2⟩
theorem prod_fin {ev sa sb : Int} {la lb : List (List Int)} {may : Int → Int → Bool} (ha : specOk ev sa la = true) (hb : specOk ev sb lb = true) (m : Nat) : (bfsTo ev.toNat (stepQ la lb may) (sa, sb) m).2.length ≤ pairs la lb :=
  bfs_pairs (stepQ_dom ha hb) ⟨spec_domN ha, spec_domN hb⟩ m
theorem pairs_le {ev sa sb : Int} {la lb : List (List Int)} (ha : specOk ev sa la = true) (hb : specOk ev sb lb = true) : pairs la lb ≤ 4225 := by
  have h1 := (spec_table ha).2.2.2.2.2
  have h2 := (spec_table hb).2.2.2.2.2
  exact Nat.le_trans (Nat.mul_le_mul (Nat.succ_le_succ h1) (Nat.succ_le_succ h2)) (by decide)
noncomputable def prodRows (ev sa sb : Int) (la lb : List (List Int)) (may : Int → Int → Bool) : List (List Int) := rleastOf ev.toNat (prodB ev sa sb la lb may).1 0
def pairVal (ea sa : Int) (la : List (List Int)) (eb sb : Int) (lb : List (List Int)) : Int := if specOk ea sa la then (if specOk eb sb lb then (if ea = eb then 0 else 2) else 11) else 11
noncomputable def pErr (may : Int → Int → Bool) (ea sa : Int) (la : List (List Int)) (eb sb : Int) (lb : List (List Int)) : Int := if pairVal ea sa la eb sb lb = 0 then (if 64 < (prodRows ea sa sb la lb may).length then 3 else 0) else pairVal ea sa la eb sb lb
noncomputable def pEv (may : Int → Int → Bool) (ea sa : Int) (la : List (List Int)) (eb sb : Int) (lb : List (List Int)) : Int := if pErr may ea sa la eb sb lb = 0 then ea else 0
noncomputable def pRows (may : Int → Int → Bool) (ea sa : Int) (la : List (List Int)) (eb sb : Int) (lb : List (List Int)) : List (List Int) := if pErr may ea sa la eb sb lb = 0 then prodRows ea sa sb la lb may else []
noncomputable def ProdEnd (may : Int → Int → Bool) (ea sa : Int) (la : List (List Int)) (eb sb : Int) (lb : List (List Int)) : World → Ending → World → Prop := SpecEnd (pErr may ea sa la eb sb lb) (pEv may ea sa la eb sb lb) 0 (pRows may ea sa la eb sb lb)
theorem pairVal_zero {ea sa : Int} {la : List (List Int)} {eb sb : Int} {lb : List (List Int)} (h : pairVal ea sa la eb sb lb = 0) : specOk ea sa la = true ∧ specOk eb sb lb = true ∧ ea = eb := by
  unfold pairVal at h
  split at h
  · split at h
    · split at h
      · exact ⟨by assumption, by assumption, by assumption⟩
      · simp at h
    · simp at h
  · simp at h
theorem two3_begin (w : World) (x y : Array Value) : two3 w ((w.alloc (.cells x 24)).alloc (.cells y 24)) x y := ⟨⟨below_alloc (below_alloc (Below.refl _ _) _) _⟩, ⟨blk_alloc (blk_new w (.cells x 24)) (.cells y 24)⟩, ⟨blk_at2 w (.cells x 24) (.cells y 24)⟩⟩
set_option maxHeartbeats 1000000 in
theorem pair_calls (ea sa : Int) (A : Option Addr) (ca : Nat) (la : List (List Int)) (eb sb : Int) (B : Option Addr) (cb : Nat) (lb : List (List Int)) (w : World) (hra : Kd.C (Kd.slice 3 (Kd.int .i64)) w A la.length la) (hrb : Kd.C (Kd.slice 3 (Kd.int .i64)) w B lb.length lb) :
    Calls Try.prog 43 #[.agg #[.int .i64 ea, .int .i64 sa, .slice A la.length ca], .agg #[.int .i64 eb, .int .i64 sb, .slice B lb.length cb]] w fun E w' => E = .returned (.int .i64 (pairVal ea sa la eb sb lb)) ∧ Below w.heap.size w w' := by
  have H1 := Aside0.mk fun W (hW : Below w.heap.size w W) => check_calls ea sa A ca la W (Kd.C_below hra hW)
  have H2 := Aside0.mk fun W (hW : Below w.heap.size w W) => check_calls eb sb B cb lb W (Kd.C_below hrb hW)
  clear hra hrb
  cases h1 : specOk ea sa la with
  | false =>
    rw [show pairVal ea sa la eb sb lb = 11 from by simp [pairVal, h1]]
    rw [show checkVal ea sa la = 11 from by simp [checkVal, h1]] at H1
    clear h1
    go_enter Try.func43, Try.ntmps43
    go_upto_region 1 with (fail)
    have HS := two3_begin w #[.int .i64 ea, .int .i64 sa, .slice A la.length ca] #[.int .i64 eb, .int .i64 sb, .slice B lb.length cb]
    generalize ((w.alloc (.cells #[.int .i64 ea, .int .i64 sa, .slice A la.length ca] 24)).alloc (.cells #[.int .i64 eb, .int .i64 sb, .slice B lb.length cb] 24)) = w0 at *
    obtain ⟨⟨hc0, hc1, hc2⟩, hd0, hd1, hd2⟩ := two3_held HS
    go_wp2_with fail
    refine (H1.out _ (HS.1).out).mono ?_
    rintro E w1 ⟨rfl, hb⟩
    have HS1 := two3_keep hb HS
    clear hb HS hc0 hc1 hc2 hd0 hd1 hd2 H1
    obtain ⟨⟨hc0, hc1, hc2⟩, hd0, hd1, hd2⟩ := two3_held HS1
    go_wp2
    go_ret
    exact ⟨rfl, (HS1.1).out⟩
  | true =>
    rw [show checkVal ea sa la = 0 from by simp [checkVal, h1]] at H1
    cases h2 : specOk eb sb lb with
    | false =>
      rw [show pairVal ea sa la eb sb lb = 11 from by simp [pairVal, h1, h2]]
      rw [show checkVal eb sb lb = 11 from by simp [checkVal, h2]] at H2
      clear h1 h2
      go_enter Try.func43, Try.ntmps43
      go_upto_region 1 with (fail)
      have HS := two3_begin w #[.int .i64 ea, .int .i64 sa, .slice A la.length ca] #[.int .i64 eb, .int .i64 sb, .slice B lb.length cb]
      generalize ((w.alloc (.cells #[.int .i64 ea, .int .i64 sa, .slice A la.length ca] 24)).alloc (.cells #[.int .i64 eb, .int .i64 sb, .slice B lb.length cb] 24)) = w0 at *
      obtain ⟨⟨hc0, hc1, hc2⟩, hd0, hd1, hd2⟩ := two3_held HS
      go_wp2_with fail
      refine (H1.out _ (HS.1).out).mono ?_
      rintro E w1 ⟨rfl, hb⟩
      have HS1 := two3_keep hb HS
      clear hb HS hc0 hc1 hc2 hd0 hd1 hd2 H1
      obtain ⟨⟨hc0, hc1, hc2⟩, hd0, hd1, hd2⟩ := two3_held HS1
      go_wp2_with fail
      refine (H2.out _ (HS1.1).out).mono ?_
      rintro E w2 ⟨rfl, hb⟩
      have HS2 := two3_keep hb HS1
      clear hb HS1 hc0 hc1 hc2 hd0 hd1 hd2 H2
      obtain ⟨⟨hc0, hc1, hc2⟩, hd0, hd1, hd2⟩ := two3_held HS2
      go_wp2
      go_ret
      exact ⟨rfl, (HS2.1).out⟩
    | true =>
      rw [show checkVal eb sb lb = 0 from by simp [checkVal, h2]] at H2
      by_cases he : ea = eb
      · rw [show pairVal ea sa la eb sb lb = 0 from by unfold pairVal; rw [h1, h2, if_pos rfl, if_pos rfl, if_pos he]]
        have he2 : (ea == eb) = true := beq_iff_eq.2 he
        clear h1 h2 he
        go_enter Try.func43, Try.ntmps43
        go_upto_region 1 with (fail)
        have HS := two3_begin w #[.int .i64 ea, .int .i64 sa, .slice A la.length ca] #[.int .i64 eb, .int .i64 sb, .slice B lb.length cb]
        generalize ((w.alloc (.cells #[.int .i64 ea, .int .i64 sa, .slice A la.length ca] 24)).alloc (.cells #[.int .i64 eb, .int .i64 sb, .slice B lb.length cb] 24)) = w0 at *
        obtain ⟨⟨hc0, hc1, hc2⟩, hd0, hd1, hd2⟩ := two3_held HS
        go_wp2_with fail
        refine (H1.out _ (HS.1).out).mono ?_
        rintro E w1 ⟨rfl, hb⟩
        have HS1 := two3_keep hb HS
        clear hb HS hc0 hc1 hc2 hd0 hd1 hd2 H1
        obtain ⟨⟨hc0, hc1, hc2⟩, hd0, hd1, hd2⟩ := two3_held HS1
        go_wp2_with fail
        refine (H2.out _ (HS1.1).out).mono ?_
        rintro E w2 ⟨rfl, hb⟩
        have HS2 := two3_keep hb HS1
        clear hb HS1 hc0 hc1 hc2 hd0 hd1 hd2 H2
        obtain ⟨⟨hc0, hc1, hc2⟩, hd0, hd1, hd2⟩ := two3_held HS2
        go_wp2
        go_ret
        exact ⟨rfl, (HS2.1).out⟩
      · rw [show pairVal ea sa la eb sb lb = 2 from by simp [pairVal, h1, h2, he]]
        have he2 : (ea == eb) = false := beq_eq_false_iff_ne.2 he
        clear h1 h2 he
        go_enter Try.func43, Try.ntmps43
        go_upto_region 1 with (fail)
        have HS := two3_begin w #[.int .i64 ea, .int .i64 sa, .slice A la.length ca] #[.int .i64 eb, .int .i64 sb, .slice B lb.length cb]
        generalize ((w.alloc (.cells #[.int .i64 ea, .int .i64 sa, .slice A la.length ca] 24)).alloc (.cells #[.int .i64 eb, .int .i64 sb, .slice B lb.length cb] 24)) = w0 at *
        obtain ⟨⟨hc0, hc1, hc2⟩, hd0, hd1, hd2⟩ := two3_held HS
        go_wp2_with fail
        refine (H1.out _ (HS.1).out).mono ?_
        rintro E w1 ⟨rfl, hb⟩
        have HS1 := two3_keep hb HS
        clear hb HS hc0 hc1 hc2 hd0 hd1 hd2 H1
        obtain ⟨⟨hc0, hc1, hc2⟩, hd0, hd1, hd2⟩ := two3_held HS1
        go_wp2_with fail
        refine (H2.out _ (HS1.1).out).mono ?_
        rintro E w2 ⟨rfl, hb⟩
        have HS2 := two3_keep hb HS1
        clear hb HS1 hc0 hc1 hc2 hd0 hd1 hd2 H2
        obtain ⟨⟨hc0, hc1, hc2⟩, hd0, hd1, hd2⟩ := two3_held HS2
        go_wp2
        go_ret
        exact ⟨rfl, (HS2.1).out⟩
def mayBoth (x y : Int) : Bool := decide (x ≥ 0) && decide (y ≥ 0)
def mayAny (x y : Int) : Bool := decide (x ≥ 0) || decide (y ≥ 0)
theorem both1_calls : MayW 52 mayBoth := by
  intro W x y
  by_cases h1 : x ≥ 0
  · have h2 : decide (x ≥ 0) = true := by simpa using h1
    have H2 := Aside0.mk h2
    clear h1
    go_enter Try.func52, Try.ntmps52
    go_wp2
    go_ret
    exact ⟨by rw [mayBoth, H2.out, Bool.true_and]; rfl, Below.refl _ _⟩
  · have h2 : decide (x ≥ 0) = false := by simpa using h1
    have H2 := Aside0.mk h2
    clear h1
    go_enter Try.func52, Try.ntmps52
    go_wp2
    go_ret
    exact ⟨by rw [mayBoth, H2.out, Bool.false_and]; rfl, Below.refl _ _⟩
theorem any1_calls : MayW 54 mayAny := by
  intro W x y
  by_cases h1 : x ≥ 0
  · have h2 : decide (x ≥ 0) = true := by simpa using h1
    have H2 := Aside0.mk h2
    clear h1
    go_enter Try.func54, Try.ntmps54
    go_wp2
    go_ret
    exact ⟨by rw [mayAny, H2.out, Bool.true_or]; rfl, Below.refl _ _⟩
  · have h2 : decide (x ≥ 0) = false := by simpa using h1
    have H2 := Aside0.mk h2
    clear h1
    go_enter Try.func54, Try.ntmps54
    go_wp2
    go_ret
    exact ⟨by rw [mayAny, H2.out, Bool.false_or]; rfl, Below.refl _ _⟩
end Go.Proofs.Ytmphigeefppfpaa.H
namespace Go.Proofs.Ytmphigeefppfpaa.H
open Go.RowKit Go.Proofs.YtmphigeefppfpaaW.PrintWords Go.Proofs.YtmphigeefppfpaaW.PrintLast Go.Proofs.YtmphigeefppfpaaW.PrintMore
set_option linter.unusedVariables false
def put3 (W : World) (rb : Nat) (a b c : Value) : World := ((W.setCell ⟨rb, 0, none⟩ a).setCell ⟨rb, 1, none⟩ b).setCell ⟨rb, 2, none⟩ c
theorem put3_grown (W : World) (rb : Nat) (a b c : Value) : W.grownBy (put3 W rb a b c) (some rb) :=
  ⟨rfl, rfl, rfl, by simp [put3, World.setCell], fun i _ hne => by
    have h : i ≠ rb := fun e => hne (by rw [e])
    exact (Below.heap_setCell _ ⟨rb, 2, none⟩ c i h).trans ((Below.heap_setCell _ ⟨rb, 1, none⟩ b i h).trans (Below.heap_setCell _ ⟨rb, 0, none⟩ a i h))⟩
theorem put3_blk {W : World} {rb : Nat} {a0 b0 c0 : Value} (h : W.heap[rb]? = some (.cells #[a0, b0, c0] 24 (0, 0))) (a b c : Value) : (put3 W rb a b c).heap[rb]? = some (.cells #[a, b, c] 24 (0, 0)) := blk_set (blk_set (blk_set h 0 a) 1 b) 2 c
theorem box_cells {W : World} {b : Nat} {x y z : Value} (h : W.heap[b]? = some (.cells #[x, y, z] 24 (0, 0))) : W.cell? ⟨b, 0, none⟩ = some x ∧ W.cell? ⟨b, 1, none⟩ = some y ∧ W.cell? ⟨b, 2, none⟩ = some z :=
  ⟨(blk_cell h 0).trans rfl, (blk_cell h 1).trans rfl, (blk_cell h 2).trans rfl⟩
theorem box_free {W : World} {b : Nat} {x y z : Value} (h : W.heap[b]? = some (.cells #[x, y, z] 24 (0, 0))) : W.frozen? ⟨b, 0, none⟩ = false ∧ W.frozen? ⟨b, 1, none⟩ = false ∧ W.frozen? ⟨b, 2, none⟩ = false :=
  ⟨blk_frozen h 0, blk_frozen h 1, blk_frozen h 2⟩
structure QB (w W : World) (va vb : Array Value) (fv : Value) : Prop where
  hb : Below w.heap.size w W
  ha : W.heap[w.heap.size]? = some (.cells va 24 (0, 0))
  hbb : W.heap[w.heap.size + 1]? = some (.cells vb 24 (0, 0))
  hf : W.heap[w.heap.size + 2]? = some (.cells #[fv] 71 (0, 0))
  hr : W.heap[w.heap.size + 3]? = some (.cells #[.int .i64 0, .int .i64 0, .slice none 0 0] 24 (0, 0))
theorem QB.below {w W W1 : World} {va vb : Array Value} {fv : Value} (h : QB w W va vb fv) (hb : Below W.heap.size W W1) : QB w W1 va vb fv := ⟨below_then h.hb h.hb.size hb, blk_below h.ha hb, blk_below h.hbb hb, blk_below h.hf hb, blk_below h.hr hb⟩
theorem QB.start (w : World) (va vb : Array Value) (fv : Value) : QB w ((((w.alloc (.cells va 24)).alloc (.cells vb 24)).alloc (.cells #[fv] 71)).alloc (.cells #[.int .i64 0, .int .i64 0, .slice none 0 0] 24)) va vb fv :=
  ⟨below_alloc (below_alloc (below_alloc (below_alloc (Below.refl _ _) _) _) _) _, blk_alloc (blk_alloc (blk_alloc (blk_new _ _) _) _) _, blk_alloc (blk_alloc (blk_at2 _ _ _) _) _, blk_alloc (blk_new' (W := (w.alloc (.cells va 24)).alloc (.cells vb 24)) (k := w.heap.size + 2) (.cells #[fv] 71) (by simp)) _, blk_new' (W := ((w.alloc (.cells va 24)).alloc (.cells vb 24)).alloc (.cells #[fv] 71)) (k := w.heap.size + 3) (.cells #[.int .i64 0, .int .i64 0, .slice none 0 0] 24) (by simp)⟩
theorem wf_small' {x : Int} (h0 : -1 ≤ x) (h1 : x < 9223372036854775808) : wf64 x := by
  simp [wf64, Lit.wf, IntKind.min, IntKind.max, IntKind.signed, IntKind.bits]; omega
set_option maxHeartbeats 4000000 in
theorem product_calls (g : Nat) (may : Int → Int → Bool) (hm : MayW g may) (eg : ∀ args w, (callFunc g args).run Try.prog w = .ok (.enter g args) w) (ea sa : Int) (A : Option Addr) (ca : Nat) (la : List (List Int)) (eb sb : Int) (B : Option Addr) (cb : Nat) (lb : List (List Int)) (w : World)
    (hra : Kd.C (Kd.slice 3 (Kd.int .i64)) w A la.length la) (hca : la.length ≤ ca) (hrb : Kd.C (Kd.slice 3 (Kd.int .i64)) w B lb.length lb) (hcb : lb.length ≤ cb) :
    Calls Try.prog 51 #[.agg #[.int .i64 ea, .int .i64 sa, .slice A la.length ca], .agg #[.int .i64 eb, .int .i64 sb, .slice B lb.length cb], .func (.func g) #[] #[]] w (ProdEnd may ea sa la eb sb lb w) := by
  have H1 := Aside0.mk fun W (hW : Below w.heap.size w W) => pair_calls ea sa A ca la eb sb B cb lb W (Kd.C_below hra hW) (Kd.C_below hrb hW)
  have HA := Aside0.mk hra
  have HB := Aside0.mk hrb
  have HM := Aside0.mk hm
  clear hra hrb hm
  by_cases hp : pairVal ea sa la eb sb lb = 0
  · obtain ⟨hsa, hsb, rfl⟩ := pairVal_zero hp
    rw [hp] at H1
    obtain ⟨_, _, he0, he1, _, hla⟩ := spec_table hsa
    obtain ⟨_, _, _, _, _, hlb⟩ := spec_table hsb
    have hfin := prod_fin (may := may) hsa hsb (pairs la lb)
    have hple := pairs_le hsa hsb
    obtain ⟨hg, hg0, hg1⟩ := table_ok' hfin
    obtain ⟨k, hk, hmin⟩ := cls_stop hg hg0
    have hrows : leastOf ea.toNat (bfsTo ea.toNat (stepQ la lb may) (sa, sb) (pairs la lb)).1 (clsTo (bfsTo ea.toNat (stepQ la lb may) (sa, sb) (pairs la lb)).1 (k + 1)).1 = prodRows ea sa sb la lb may :=
      (least_is hg hg0 hk).1.unique (rleast_is hg hg0 ⟨by omega, by omega⟩).1 (Lq.refl _)
    have HE := Aside0.mk (show (64 < (prodRows ea sa sb la lb may).length → ProdEnd may ea sa la ea sb lb = SpecEnd 3 0 0 []) ∧ (¬ 64 < (prodRows ea sa sb la lb may).length → ProdEnd may ea sa la ea sb lb = SpecEnd 0 ea 0 (prodRows ea sa sb la lb may)) from
      ⟨fun h => by simp [ProdEnd, pErr, pEv, pRows, hp, h], fun h => by simp [ProdEnd, pErr, pEv, pRows, hp, h]⟩)
    have H2 := Aside0.mk fun W (HS : QB w W #[.int .i64 ea, .int .i64 sa, .slice A la.length ca] #[.int .i64 ea, .int .i64 sb, .slice B lb.length cb] (.func (.func g) #[] #[])) =>
      exploredP_calls ea.toNat (sa, sb) 68 #[.pointer (some ⟨w.heap.size, 0, none⟩), .pointer (some ⟨w.heap.size + 1, 0, none⟩), .pointer (some ⟨w.heap.size + 2, 0, none⟩)] (domQ la lb) (stepQ la lb may) (pairs la lb) W (by omega) (by omega) hfin
        (fun W' x e hW hx he => step_calls g may HM.out ea sa sb A B ca cb la lb w.heap.size (w.heap.size + 1) (w.heap.size + 2) x e W' hsa hsb hx (by omega) (blk_below HS.ha hW) (blk_below HS.hbb hW) (blk_below HS.hf hW) (Kd.C_below HA.out (below_then HS.hb HS.hb.size hW)) hca (Kd.C_below HB.out (below_then HS.hb HS.hb.size hW)) hcb eg)
        ⟨spec_domN hsa, spec_domN hsb⟩ (stepQ_dom hsa hsb) (fun x hx => ⟨wf_small' hx.1.1 (by have := hx.1.2; omega), wf_small' hx.2.1 (by have := hx.2.2; omega)⟩) (fun _ _ => rfl)
    have H3 := Aside0.mk fun W A cg (hc : Kd.C (Kd.slice 3 (Kd.int .i64)) W A (bfsTo ea.toNat (stepQ la lb may) (sa, sb) (pairs la lb)).1.length (bfsTo ea.toNat (stepQ la lb may) (sa, sb) (pairs la lb)).1) => least_calls ea.toNat (bfsTo ea.toNat (stepQ la lb may) (sa, sb) (pairs la lb)).1 A cg k 0 W hc (by omega) hg0 (by omega) hg hk hmin
    unfold LeastEnd at H3
    rw [hrows] at H3
    rw [show ((ea.toNat : Nat) : Int) = ea from by omega] at H2 H3
    unfold ExEndP at H2
    generalize prodRows ea sa sb la lb may = rows at *
    generalize (bfsTo ea.toNat (stepQ la lb may) (sa, sb) (pairs la lb)).1 = tab at *
    clear hp hsa hsb hfin hple hg hg0 hg1 hk hmin hrows hla hlb
    have hmf := run_mkfun
    go_enter Try.func51, Try.ntmps51
    go_upto_region 1 with (fail)
    have HS := QB.start w #[.int .i64 ea, .int .i64 sa, .slice A la.length ca] #[.int .i64 ea, .int .i64 sb, .slice B lb.length cb] (.func (.func g) #[] #[])
    generalize ((((w.alloc (.cells #[.int .i64 ea, .int .i64 sa, .slice A la.length ca] 24)).alloc (.cells #[.int .i64 ea, .int .i64 sb, .slice B lb.length cb] 24)).alloc (.cells #[.func (.func g) #[] #[]] 71)).alloc (.cells #[.int .i64 0, .int .i64 0, .slice none 0 0] 24)) = w0 at *
    obtain ⟨hc0, hc1, hc2⟩ := box_cells HS.ha
    obtain ⟨hd0, hd1, hd2⟩ := box_cells HS.hbb
    go_wp2_with fail
    refine (H1.out _ HS.hb).mono ?_
    rintro E w1 ⟨rfl, hb⟩
    have HS1 := HS.below hb
    clear hb HS hc0 hc1 hc2 hd0 hd1 hd2 H1
    obtain ⟨hc0, hc1, hc2⟩ := box_cells HS1.ha
    obtain ⟨hd0, hd1, hd2⟩ := box_cells HS1.hbb
    go_wp2_with fail
    refine (H2.out _ HS1).mono ?_
    rintro E w2 ⟨ov, qv, So, Sq, rfl, _, ho, _, hb⟩
    obtain ⟨Ag, cg, rfl⟩ := Kd.R_slice ho
    have HO := Aside0.mk (Kd.R_reads' ho)
    have HS2 := HS1.below hb
    clear hb ho HS1 hc0 hc1 hc2 hd0 hd1 hd2 H2
    obtain ⟨hc0, hc1, hc2⟩ := box_cells HS2.ha
    go_wp2_with fail
    refine (H3.out _ _ _ (HO.out).2.2).mono ?_
    rintro E w3 ⟨ov2, So2, rfl, ho2, hb2⟩
    obtain ⟨A2, c2, rfl⟩ := Kd.R_slice ho2
    have HO2 := Aside0.mk (Kd.R_lower ho2 HS2.hb.size)
    have HS3 := HS2.below hb2
    clear hb2 ho2 HS2 hc0 hc1 hc2 H3 HO
    obtain ⟨hc0, hc1, hc2⟩ := box_cells HS3.ha
    obtain ⟨hd0, hd1, hd2⟩ := box_cells HS3.hr
    obtain ⟨hf0, hf1, hf2⟩ := box_free HS3.hr
    by_cases h64 : 64 < rows.length
    · have hz : (rows.length : Int) > 64 := by omega
      have HE2 := Aside0.mk ((HE.out).1 h64)
      clear HE h64
      go_wp2
      have hblk := put3_blk HS3.hr (.int .i64 0) (.int .i64 0) (.slice none 0 0)
      have hbl := pw_below_grown HS3.hb _ HS3.hb.size (put3_grown w3 (w.heap.size + 3) (.int .i64 0) (.int .i64 0) (.slice none 0 0)) (fun k hk => by cases hk; omega)
      unfold put3 at hblk hbl
      refine bodyPost_ret (results_row_tmp rfl _ _ (w.heap.size + 3) 24 #[.int .i64 0, .int .i64 0, .slice none 0 0] (0, 0) _ rfl hblk Try.underlying24 rfl (by kernel_rfl)) rfl ?_
      rw [HE2.out]
      exact ⟨none, 0, fun _ => False, rfl, Kd.R_nil _ _ _ _ _, hbl⟩
    · have hz : ¬ (rows.length : Int) > 64 := by omega
      have HE2 := Aside0.mk ((HE.out).2 h64)
      clear HE h64
      go_wp2
      have hblk := put3_blk HS3.hr (.int .i64 ea) (.int .i64 0) (.slice A2 rows.length c2)
      have hgr := put3_grown w3 (w.heap.size + 3) (.int .i64 ea) (.int .i64 0) (.slice A2 rows.length c2)
      have hbl := pw_below_grown HS3.hb _ HS3.hb.size hgr (fun k hk => by cases hk; omega)
      have hR := R_offrow HO2.out HS3.hr (by simp [Kd.slice, Kd.int, Kd.scalar]) hgr
      unfold put3 at hblk hbl hR
      refine bodyPost_ret (results_row_tmp rfl _ _ (w.heap.size + 3) 24 #[.int .i64 ea, .int .i64 0, .slice A2 rows.length c2] (0, 0) _ rfl hblk Try.underlying24 rfl (by kernel_rfl)) rfl ?_
      rw [HE2.out]
      exact ⟨A2, c2, So2, rfl, hR, hbl⟩
  · have HE := Aside0.mk (show ProdEnd may ea sa la eb sb lb = SpecEnd (pairVal ea sa la eb sb lb) 0 0 [] from by simp [ProdEnd, pErr, pEv, pRows, hp])
    generalize pairVal ea sa la eb sb lb = v at *
    have hv : (v == 0) = false := beq_eq_false_iff_ne.2 hp
    clear hp
    go_enter Try.func51, Try.ntmps51
    go_upto_region 1 with (fail)
    have HS := QB.start w #[.int .i64 ea, .int .i64 sa, .slice A la.length ca] #[.int .i64 eb, .int .i64 sb, .slice B lb.length cb] (.func (.func g) #[] #[])
    generalize ((((w.alloc (.cells #[.int .i64 ea, .int .i64 sa, .slice A la.length ca] 24)).alloc (.cells #[.int .i64 eb, .int .i64 sb, .slice B lb.length cb] 24)).alloc (.cells #[.func (.func g) #[] #[]] 71)).alloc (.cells #[.int .i64 0, .int .i64 0, .slice none 0 0] 24)) = w0 at *
    obtain ⟨hc0, hc1, hc2⟩ := box_cells HS.ha
    obtain ⟨hd0, hd1, hd2⟩ := box_cells HS.hbb
    go_wp2_with fail
    refine (H1.out _ HS.hb).mono ?_
    rintro E w1 ⟨rfl, hb⟩
    have HS1 := HS.below hb
    clear hb HS hc0 hc1 hc2 hd0 hd1 hd2 H1
    obtain ⟨hc0, hc1, hc2⟩ := box_cells HS1.hr
    obtain ⟨hf0, hf1, hf2⟩ := box_free HS1.hr
    go_wp2
    have hblk := put3_blk HS1.hr (.int .i64 0) (.int .i64 0) (.slice none 0 0)
    have hbl := pw_below_grown HS1.hb _ HS1.hb.size (put3_grown w1 (w.heap.size + 3) (.int .i64 0) (.int .i64 0) (.slice none 0 0)) (fun k hk => by cases hk; omega)
    unfold put3 at hblk hbl
    refine bodyPost_ret (results_row_tmp rfl _ _ (w.heap.size + 3) 24 #[.int .i64 0, .int .i64 0, .slice none 0 0] (0, 0) _ rfl hblk Try.underlying24 rfl (by kernel_rfl)) rfl ?_
    rw [HE.out]
    exact ⟨none, 0, fun _ => False, rfl, Kd.R_nil _ _ _ _ _, hbl⟩
end Go.Proofs.Ytmphigeefppfpaa.H
namespace Go.Proofs.Ytmphigeefppfpaa.H
open Go.RowKit Go.Proofs.YtmphigeefppfpaaW.PrintWords Go.Proofs.YtmphigeefppfpaaW.PrintLast Go.Proofs.YtmphigeefppfpaaW.PrintMore
set_option linter.unusedVariables false
structure TB (w W : World) (va vb : Array Value) : Prop where
  hb : Below w.heap.size w W
  ha : W.heap[w.heap.size]? = some (.cells va 24 (0, 0))
  hbb : W.heap[w.heap.size + 1]? = some (.cells vb 24 (0, 0))
  hr : W.heap[w.heap.size + 2]? = some (.cells #[.int .i64 0, .int .i64 0, .slice none 0 0] 24 (0, 0))
theorem TB.below {w W W1 : World} {va vb : Array Value} (h : TB w W va vb) (hb : Below W.heap.size W W1) : TB w W1 va vb := ⟨below_then h.hb h.hb.size hb, blk_below h.ha hb, blk_below h.hbb hb, blk_below h.hr hb⟩
theorem TB.start (w : World) (va vb : Array Value) : TB w (((w.alloc (.cells va 24)).alloc (.cells vb 24)).alloc (.cells #[.int .i64 0, .int .i64 0, .slice none 0 0] 24)) va vb :=
  ⟨below_alloc (below_alloc (below_alloc (Below.refl _ _) _) _) _, blk_alloc (blk_alloc (blk_new _ _) _) _, blk_alloc (blk_at2 _ _ _) _, blk_new' (W := (w.alloc (.cells va 24)).alloc (.cells vb 24)) (k := w.heap.size + 2) (.cells #[.int .i64 0, .int .i64 0, .slice none 0 0] 24) (by simp)⟩
set_option maxHeartbeats 1000000 in
theorem both_calls (ea sa : Int) (A : Option Addr) (ca : Nat) (la : List (List Int)) (eb sb : Int) (B : Option Addr) (cb : Nat) (lb : List (List Int)) (w : World)
    (hra : Kd.C (Kd.slice 3 (Kd.int .i64)) w A la.length la) (hca : la.length ≤ ca) (hrb : Kd.C (Kd.slice 3 (Kd.int .i64)) w B lb.length lb) (hcb : lb.length ≤ cb) :
    Calls Try.prog 29 #[.agg #[.int .i64 ea, .int .i64 sa, .slice A la.length ca], .agg #[.int .i64 eb, .int .i64 sb, .slice B lb.length cb]] w (ProdEnd mayBoth ea sa la eb sb lb w) := by
  have H1 := Aside0.mk fun W (hW : Below w.heap.size w W) => product_calls 52 mayBoth both1_calls (fun _ _ => rfl) ea sa A ca la eb sb B cb lb W (Kd.C_below hra hW) hca (Kd.C_below hrb hW) hcb
  unfold ProdEnd SpecEnd at H1
  unfold ProdEnd
  generalize pErr mayBoth ea sa la eb sb lb = err at *
  generalize pEv mayBoth ea sa la eb sb lb = n at *
  generalize pRows mayBoth ea sa la eb sb lb = rows at *
  clear hra hca hrb hcb
  go_enter Try.func29, Try.ntmps29
  go_upto_region 1 with (fail)
  have HS := TB.start w #[.int .i64 ea, .int .i64 sa, .slice A la.length ca] #[.int .i64 eb, .int .i64 sb, .slice B lb.length cb]
  generalize (((w.alloc (.cells #[.int .i64 ea, .int .i64 sa, .slice A la.length ca] 24)).alloc (.cells #[.int .i64 eb, .int .i64 sb, .slice B lb.length cb] 24)).alloc (.cells #[.int .i64 0, .int .i64 0, .slice none 0 0] 24)) = w0 at *
  obtain ⟨hc0, hc1, hc2⟩ := box_cells HS.ha
  obtain ⟨hd0, hd1, hd2⟩ := box_cells HS.hbb
  go_wp2_with fail
  refine (H1.out _ HS.hb).mono ?_
  rintro E w1 ⟨A2, c2, S2, rfl, ho, hb⟩
  have HO2 := Aside0.mk (Kd.R_lower ho HS.hb.size)
  have HS1 := HS.below hb
  clear hb ho HS hc0 hc1 hc2 hd0 hd1 hd2 H1
  obtain ⟨hc0, hc1, hc2⟩ := box_cells HS1.hr
  obtain ⟨hf0, hf1, hf2⟩ := box_free HS1.hr
  go_wp2
  have hblk := put3_blk HS1.hr (.int .i64 n) (.int .i64 0) (.slice A2 rows.length c2)
  have hgr := put3_grown w1 (w.heap.size + 2) (.int .i64 n) (.int .i64 0) (.slice A2 rows.length c2)
  have hbl := pw_below_grown HS1.hb _ HS1.hb.size hgr (fun k hk => by cases hk; omega)
  have hR := R_offrow HO2.out HS1.hr (by simp [Kd.slice, Kd.int, Kd.scalar]) hgr
  unfold put3 at hblk hbl hR
  refine bodyPost_ret (results_row_tmp rfl _ _ (w.heap.size + 2) 24 #[.int .i64 n, .int .i64 0, .slice A2 rows.length c2] (0, 0) _ rfl hblk Try.underlying24 rfl (by kernel_rfl)) rfl ?_
  exact ⟨A2, c2, S2, rfl, hR, hbl⟩
set_option maxHeartbeats 1000000 in
theorem any_calls (ea sa : Int) (A : Option Addr) (ca : Nat) (la : List (List Int)) (eb sb : Int) (B : Option Addr) (cb : Nat) (lb : List (List Int)) (w : World)
    (hra : Kd.C (Kd.slice 3 (Kd.int .i64)) w A la.length la) (hca : la.length ≤ ca) (hrb : Kd.C (Kd.slice 3 (Kd.int .i64)) w B lb.length lb) (hcb : lb.length ≤ cb) :
    Calls Try.prog 31 #[.agg #[.int .i64 ea, .int .i64 sa, .slice A la.length ca], .agg #[.int .i64 eb, .int .i64 sb, .slice B lb.length cb]] w (ProdEnd mayAny ea sa la eb sb lb w) := by
  have H1 := Aside0.mk fun W (hW : Below w.heap.size w W) => product_calls 54 mayAny any1_calls (fun _ _ => rfl) ea sa A ca la eb sb B cb lb W (Kd.C_below hra hW) hca (Kd.C_below hrb hW) hcb
  unfold ProdEnd SpecEnd at H1
  unfold ProdEnd
  generalize pErr mayAny ea sa la eb sb lb = err at *
  generalize pEv mayAny ea sa la eb sb lb = n at *
  generalize pRows mayAny ea sa la eb sb lb = rows at *
  clear hra hca hrb hcb
  go_enter Try.func31, Try.ntmps31
  go_upto_region 1 with (fail)
  have HS := TB.start w #[.int .i64 ea, .int .i64 sa, .slice A la.length ca] #[.int .i64 eb, .int .i64 sb, .slice B lb.length cb]
  generalize (((w.alloc (.cells #[.int .i64 ea, .int .i64 sa, .slice A la.length ca] 24)).alloc (.cells #[.int .i64 eb, .int .i64 sb, .slice B lb.length cb] 24)).alloc (.cells #[.int .i64 0, .int .i64 0, .slice none 0 0] 24)) = w0 at *
  obtain ⟨hc0, hc1, hc2⟩ := box_cells HS.ha
  obtain ⟨hd0, hd1, hd2⟩ := box_cells HS.hbb
  go_wp2_with fail
  refine (H1.out _ HS.hb).mono ?_
  rintro E w1 ⟨A2, c2, S2, rfl, ho, hb⟩
  have HO2 := Aside0.mk (Kd.R_lower ho HS.hb.size)
  have HS1 := HS.below hb
  clear hb ho HS hc0 hc1 hc2 hd0 hd1 hd2 H1
  obtain ⟨hc0, hc1, hc2⟩ := box_cells HS1.hr
  obtain ⟨hf0, hf1, hf2⟩ := box_free HS1.hr
  go_wp2
  have hblk := put3_blk HS1.hr (.int .i64 n) (.int .i64 0) (.slice A2 rows.length c2)
  have hgr := put3_grown w1 (w.heap.size + 2) (.int .i64 n) (.int .i64 0) (.slice A2 rows.length c2)
  have hbl := pw_below_grown HS1.hb _ HS1.hb.size hgr (fun k hk => by cases hk; omega)
  have hR := R_offrow HO2.out HS1.hr (by simp [Kd.slice, Kd.int, Kd.scalar]) hgr
  unfold put3 at hblk hbl hR
  refine bodyPost_ret (results_row_tmp rfl _ _ (w.heap.size + 2) 24 #[.int .i64 n, .int .i64 0, .slice A2 rows.length c2] (0, 0) _ rfl hblk Try.underlying24 rfl (by kernel_rfl)) rfl ?_
  exact ⟨A2, c2, S2, rfl, hR, hbl⟩
end Go.Proofs.Ytmphigeefppfpaa.H
namespace Go.Proofs.Ytmphigeefppfpaa.H
open Go.RowKit Go.Proofs.YtmphigeefppfpaaW.PrintWords Go.Proofs.YtmphigeefppfpaaW.PrintLast Go.Proofs.YtmphigeefppfpaaW.PrintMore
set_option linter.unusedVariables false
theorem TB.row {w W W1 : World} {va vb : Array Value} (h : TB w W va vb) {row : Option Nat} (hg : W.grownBy W1 row) (hne : ∀ k, row = some k → w.heap.size + 2 < k ∨ ∃ cells T, W.heap[k]? = some (.cells cells T (0, 0)) ∧ T ≠ 24 ∧ w.heap.size ≤ k) : TB w W1 va vb := by
  have hlt : ∀ {b : Nat} {v : Array Value}, b ≤ w.heap.size + 2 → W.heap[b]? = some (.cells v 24 (0, 0)) → some b ≠ row := by
    intro b v hb hv e
    rcases hne b e.symm with h1 | ⟨cells, T, h1, h2, _⟩
    · omega
    · exact blk_ne hv h1 (Ne.symm h2) rfl
  refine ⟨pw_below_grown h.hb _ h.hb.size hg (fun k hk => ?_), blk_grown h.ha hg (hlt (by omega) h.ha), blk_grown h.hbb hg (hlt (by omega) h.hbb), blk_grown h.hr hg (hlt (by omega) h.hr)⟩
  rcases hne k hk with h1 | ⟨_, _, _, _, h1⟩
  · omega
  · exact h1
end Go.Proofs.Ytmphigeefppfpaa.H
namespace Go.Proofs.Ytmphigeefppfpaa.H
open Go.RowKit Go.Proofs.YtmphigeefppfpaaW.PrintWords Go.Proofs.YtmphigeefppfpaaW.PrintLast Go.Proofs.YtmphigeefppfpaaW.PrintMore
set_option linter.unusedVariables false
structure AL (w W : World) (bs : List (Nat × Array Value)) (ob B1 : Nat) (rv gv mv bv : Value) (rk : List Int) (g : List (List Int)) (M : List (List (List (List Q.S78)))) (yv : Value) (y : List Int) (wv lv : Value) (Sm Sw Sl : Nat → Prop) (row : List (List (List Q.S78))) (lst : List Q.S78) : Prop where
  hA : AS w W bs ob B1 rv gv mv bv Sm rk g M
  hW : Kd.R kA2 79 W B1 Sw wv row
  hL : Kd.R Q.k78 78 W B1 Sl lv lst
  hY : Kd.R (Kd.int .i64) 3 W w.heap.size (fun k => k < B1) yv y
  dmw : Disj Sm Sw
  dml : Disj Sm Sl
  dwl : Disj Sw Sl
section
variable {w W W1 : World} {yv : Value} {y : List Int} {bs : List (Nat × Array Value)} {ob B1 : Nat} {rv gv mv bv wv lv lv1 : Value} {Sm Sw Sl : Nat → Prop} {rk : List Int} {g : List (List Int)} {M : List (List (List (List Q.S78)))} {row : List (List (List Q.S78))} {lst l1 : List Q.S78}
theorem AS.bound (h : AS w W bs ob B1 rv gv mv bv Sm rk g M) : AS w W bs ob B1 rv gv mv bv (fun k => Sm k ∧ k < W.heap.size) rk g M := ⟨h.hb, h.hbs, h.hr, h.ho, h.h1, h.hRk, h.hg, Kd.R_mono (Kd.R_bound h.hM) (fun k hk => ⟨hk.1, hk.2.2.1⟩)⟩
theorem AL.below (h : AL w W bs ob B1 rv gv mv bv rk g M yv y wv lv Sm Sw Sl row lst) (hb : Below W.heap.size W W1) : AL w W1 bs ob B1 rv gv mv bv rk g M yv y wv lv Sm Sw Sl row lst := ⟨h.hA.below hb, Kd.R_below h.hW hb, Kd.R_below h.hL hb, Kd.R_below h.hY hb, h.dmw, h.dml, h.dwl⟩
theorem AL.lit (h : AL w W bs ob B1 rv gv mv bv rk g M yv y wv lv Sm Sw Sl row lst) : AL w (W.alloc (.cells #[] 78)) bs ob B1 rv gv mv bv rk g M yv y wv (.slice (some ⟨W.heap.size, 0, none⟩) 0 0) (fun k => Sm k ∧ k < W.heap.size) (fun k => Sw k ∧ k < W.heap.size) (fun k => k = W.heap.size) row [] := by
  have hb := below_alloc (Below.refl W.heap.size W) (.cells #[] 78)
  exact ⟨(h.hA.bound).below hb, Kd.R_below (Kd.R_mono (Kd.R_bound h.hW) (fun k hk => ⟨hk.1, hk.2.2.1⟩)) hb, R_empty Q.k78 W B1 h.hA.h1.2.2, Kd.R_below h.hY hb, h.dmw.less _, fun k ha hb => by have := ha.2; omega, fun k ha hb => by have := ha.2; omega⟩
theorem AL.appL (h : AL w W bs ob B1 rv gv mv bv rk g M yv y wv lv Sm Sw Sl row lst) (hq : Kd.R Q.k78 78 W1 B1 (fun k => Sl k ∨ W.heap.size ≤ k) lv1 l1) (hg : W.grownBy W1 lv.ownBlock) : AL w W1 bs ob B1 rv gv mv bv rk g M yv y wv lv1 (fun k => Sm k ∧ k < W.heap.size) (fun k => Sw k ∧ k < W.heap.size) (fun k => Sl k ∨ W.heap.size ≤ k) row l1 :=
  ⟨(h.hA.bound).grown hg (fun k hk => ⟨Kd.R_base h.hL k hk, fun hs => h.dml k hs.1 (h.hL.1 k hk)⟩), R_stay h.hW hg (fun k hk hs => h.dwl k hs (h.hL.1 k hk)), hq, R_low h.hY hg (Kd.R_base h.hL), h.dmw.less _, (h.dml.symm.fresh _).symm, (h.dwl.symm.fresh _).symm⟩
theorem AL.store {wb m cw : Nat} (h : AL w W bs ob B1 rv gv mv bv rk g M yv y (.slice (some ⟨wb, 0, none⟩) m cw) lv Sm Sw Sl row lst) (f : Nat) (hf : f < m) :
    AL w ((W.alloc (.cells #[lv] 76)).setCell ⟨wb, f, none⟩ (.slice (some ⟨W.heap.size, 0, none⟩) 1 1)) bs ob B1 rv gv mv bv rk g M yv y (.slice (some ⟨wb, 0, none⟩) m cw) (.slice none 0 0) (fun k => Sm k ∧ k < W.heap.size) (fun k => (Sw k ∨ Sl k) ∨ k = W.heap.size) (fun _ => False) (row.set f [lst]) [] := by
  have hb := below_alloc (Below.refl W.heap.size W) (.cells #[lv] 76)
  have hone : Kd.R kA1 76 (W.alloc (.cells #[lv] 76)) B1 (fun k => Sl k ∨ k = W.heap.size) (.slice (some ⟨W.heap.size, 0, none⟩) 1 1) [lst] := R_one (e := 78) (t := 76) h.hL h.hA.h1.2.2
  have hwb : Sw wb := h.hW.1 wb rfl
  have hwlt : wb < W.heap.size := by
    obtain ⟨cells, hc⟩ := Kd.R_typed h.hW wb rfl
    exact (Array.getElem?_eq_some_iff.1 hc).1
  have hrow := R_puts (d := kA1) (e := 76) (t := 79) (ok := fun k => (Sw k ∨ Sl k) ∨ k = W.heap.size) (Kd.R_mono (Kd.R_below h.hW hb) (fun k hk => .inl (.inl hk))) f hf hone (fun k hk => by
    rcases hk with hk | hk
    · exact ⟨.inl (.inr hk), fun e => h.dwl wb hwb (e ▸ hk)⟩
    · exact ⟨.inr hk, by omega⟩)
  refine ⟨((h.hA.bound).below hb).grown hrow.2 (fun k hk => by cases hk; exact ⟨Kd.R_base h.hW wb rfl, fun hs => h.dmw wb hs.1 hwb⟩), hrow.1, Kd.R_nil _ _ _ _ _, R_low (Kd.R_below h.hY hb) hrow.2 (fun k hk => by cases hk; exact Kd.R_base h.hW wb rfl), fun k ha hb => ?_, fun _ _ h => h, fun _ _ h => h⟩
  rcases hb with (hb | hb) | hb
  · exact h.dmw k ha.1 hb
  · exact h.dml k ha.1 hb
  · have := ha.2; omega
theorem R_rowAt {A : Option Addr} {n cg base : Nat} {ok : Nat → Prop} {W : World} {g : List (List Int)} (h : Kd.R (Kd.slice 3 (Kd.int .i64)) 25 W base ok (.slice A n cg) g) (q : Nat) (hq : q < n) :
    ∃ ad Ay cy, A = some ad ∧ W.cell? (ad.add q) = some (.slice Ay (Q.rd_L1 g (q : Int)).length cy) ∧ Kd.R (Kd.int .i64) 3 W base ok (.slice Ay (Q.rd_L1 g (q : Int)).length cy) (Q.rd_L1 g (q : Int)) := by
  obtain ⟨b, rfl⟩ : ∃ b, A = some ⟨b, 0, none⟩ := by
    obtain ⟨_, inner, ⟨_, ho⟩, _⟩ := h
    rcases ho with ⟨hv, _⟩ | ⟨g', cap', cur, hv, _⟩
    · injection hv with h1 h2 _; omega
    · injection hv with h1 _ _; exact ⟨g', h1⟩
  obtain ⟨c, hcl, hM, hcc, _⟩ := Kd.R_elem h [] (q : Int) (by omega) (by omega)
  obtain ⟨u, rfl, hR⟩ := hM
  have hcc0 := hcc 0 u rfl
  rw [show (Kd.slice 3 (Kd.int .i64)).sz = 1 from rfl, Int.toNat_natCast, Nat.mul_one, Nat.add_zero] at hcc0
  rw [Int.toNat_natCast] at hR
  obtain ⟨Ay, cy, rfl⟩ := Kd.R_slice hR
  have e : g.getD q [] = Q.rd_L1 g (q : Int) := by simp [Q.rd_L1]
  rw [e] at hcc0 hR
  refine ⟨⟨b, 0, none⟩, Ay, cy, rfl, ?_, Kd.R_mono hR (fun k hk => hk.1)⟩
  rw [← hcc0]
  congr 1
  exact add_plain _ _ |>.trans (by simp)
end
structure AB (w W : World) (va : Array Value) : Prop where
  hb : Below w.heap.size w W
  hs : W.heap[w.heap.size]? = some (.cells va 24 (0, 0))
  hr : W.heap[w.heap.size + 1]? = some (.cells #[.slice none 0 0, .int .i64 0, .slice none 0 0] 44 (0, 0))
theorem AB.below {w W W1 : World} {va : Array Value} (h : AB w W va) (hb : Below W.heap.size W W1) : AB w W1 va := ⟨below_then h.hb h.hb.size hb, blk_below h.hs hb, blk_below h.hr hb⟩
theorem AB.start (w : World) (va : Array Value) : AB w ((w.alloc (.cells va 24)).alloc (.cells #[.slice none 0 0, .int .i64 0, .slice none 0 0] 44)) va := ⟨below_alloc (below_alloc (Below.refl _ _) (.cells va 24)) (.cells #[.slice none 0 0, .int .i64 0, .slice none 0 0] 44), blk_alloc (blk_new _ _) _, blk_at2 _ _ _⟩
theorem AB.res {w W : World} {va : Array Value} (h : AB w W va) : (W.cell? ⟨w.heap.size + 1, 0, none⟩ = some (.slice none 0 0) ∧ W.frozen? ⟨w.heap.size + 1, 0, none⟩ = false) ∧ (W.cell? ⟨w.heap.size + 1, 1, none⟩ = some (.int .i64 0) ∧ W.frozen? ⟨w.heap.size + 1, 1, none⟩ = false) ∧ (W.cell? ⟨w.heap.size + 1, 2, none⟩ = some (.slice none 0 0) ∧ W.frozen? ⟨w.heap.size + 1, 2, none⟩ = false) :=
  ⟨⟨(blk_cell h.hr 0).trans rfl, blk_frozen h.hr 0⟩, ⟨(blk_cell h.hr 1).trans rfl, blk_frozen h.hr 1⟩, (blk_cell h.hr 2).trans rfl, blk_frozen h.hr 2⟩
theorem AB.out {w W : World} {va : Array Value} (h : AB w W va) (a b c : Value) : (outW w W a b c).heap[w.heap.size + 1]? = some (.cells #[a, b, c] 44 (0, 0)) ∧ Below w.heap.size w (outW w W a b c) ∧ W.grownBy (outW w W a b c) (some (w.heap.size + 1)) :=
  ⟨blk_set (blk_set (blk_set h.hr 0 a) 1 b) 2 c, pw_below_grown h.hb _ h.hb.size (put3_grown W (w.heap.size + 1) a b c) (fun k hk => by cases hk; omega), put3_grown W (w.heap.size + 1) a b c⟩
theorem AuEnd.err {e : Int} {w W : World} {va : Array Value} (h : AB w W va) : AuEnd e [] [] w (.returned (.tuple #[.agg #[.slice none 0 0, .int .i64 0, .slice none 0 0], .int .i64 e])) (outW w W (.slice none 0 0) (.int .i64 0) (.slice none 0 0)) :=
  ⟨none, none, 0, 0, fun _ => False, fun _ => False, rfl, Kd.R_nil _ _ _ _ _, Kd.R_nil _ _ _ _ _, (h.out _ _ _).2.1⟩
theorem auto1_calls (x ev : Int) (b : Nat) (w : World) (hc : w.cell? ⟨b, 0, none⟩ = some (.int .i64 ev)) :
    Calls Try.prog 56 #[.int .i64 x, .pointer (some ⟨b, 0, none⟩)] w fun e w' => e = .returned (.bool (auBad ev x)) ∧ Below w.heap.size w w' := by
  by_cases h1 : x < -1
  · have h2 : decide (x < -1) = true := by simpa using h1
    have H2 := Aside0.mk h2
    clear h1
    go_enter Try.func56, Try.ntmps56
    go_wp2
    repeat (go_quiet (fail); try go_wp2)
    go_ret
    exact ⟨by rw [auBad, H2.out]; rfl, Below.refl _ _⟩
  · have h2 : decide (x < -1) = false := by simpa using h1
    have H2 := Aside0.mk h2
    clear h1
    go_enter Try.func56, Try.ntmps56
    go_wp2
    repeat (go_quiet (fail); try go_wp2)
    go_ret
    exact ⟨by rw [auBad, H2.out, Bool.false_or]; rfl, Below.refl _ _⟩
theorem auto1_pred (ev : Int) (b : Nat) (w : World) (hc : w.cell? ⟨b, 0, none⟩ = some (.int .i64 ev)) : PredW 56 #[.pointer (some ⟨b, 0, none⟩)] (Value.int .i64) (fun _ => True) (auBad ev) w :=
  fun _ x hb _ => auto1_calls x ev b _ (pw_cell_below hb hc)
set_option maxHeartbeats 4000000 in
theorem sauto_bad (ev st : Int) (A : Option Addr) (c : Nat) (l : List (List Int)) (A1 A2 : Option Addr) (c1 c2 : Nat) (rk of : List Int) (w : World) (hr : Kd.C (Kd.slice 3 (Kd.int .i64)) w A l.length l)
    (hr1 : Kd.C (Kd.int .i64) w A1 rk.length rk) (hc1 : rk.length ≤ c1) (hr2 : Kd.C (Kd.int .i64) w A2 of.length of) (h : specOk ev st l = false) :
    Calls Try.prog 33 #[.agg #[.int .i64 ev, .int .i64 st, .slice A l.length c], .slice A1 rk.length c1, .slice A2 of.length c2] w (AuEnd 11 [] [] w) := by
  have H1 := Aside0.mk fun W (hW : Below w.heap.size w W) => check_calls ev st A c l W (Kd.C_below hr hW)
  rw [show checkVal ev st l = 11 from by simp [checkVal, h]] at H1
  clear hr hr1 hr2 hc1 h
  go_enter Try.func33, Try.ntmps33
  go_upto_region 1 with (fail)
  have HS := AB.start w #[.int .i64 ev, .int .i64 st, .slice A l.length c]
  generalize ((w.alloc (.cells #[.int .i64 ev, .int .i64 st, .slice A l.length c] 24)).alloc (.cells #[.slice none 0 0, .int .i64 0, .slice none 0 0] 44)) = w0 at *
  obtain ⟨hc0, hc1, hc2⟩ := box_cells HS.hs
  go_wp2_with fail
  refine (H1.out _ HS.hb).mono ?_
  rintro E w1 ⟨rfl, hb⟩
  have HS1 := HS.below hb
  clear hb HS hc0 hc1 hc2 H1
  obtain ⟨⟨hc0, hf0⟩, ⟨hc1, hf1⟩, hc2, hf2⟩ := HS1.res
  go_wp2
  refine bodyPost_ret (results_row_tmp rfl _ _ (w.heap.size + 1) 44 #[.slice none 0 0, .int .i64 0, .slice none 0 0] (0, 0) _ rfl (HS1.out _ _ _).1 Try.underlying44 rfl (by kernel_rfl)) rfl ?_
  exact AuEnd.err HS1
set_option maxHeartbeats 4000000 in
theorem sauto_args (ev st : Int) (A : Option Addr) (c : Nat) (l : List (List Int)) (A1 A2 : Option Addr) (c1 c2 : Nat) (rk of : List Int) (w : World) (hr : Kd.C (Kd.slice 3 (Kd.int .i64)) w A l.length l)
    (hr1 : Kd.C (Kd.int .i64) w A1 rk.length rk) (hc1 : rk.length ≤ c1) (hr2 : Kd.C (Kd.int .i64) w A2 of.length of) (h : specOk ev st l = true) (ha : auArgs ev rk of = false) :
    Calls Try.prog 33 #[.agg #[.int .i64 ev, .int .i64 st, .slice A l.length c], .slice A1 rk.length c1, .slice A2 of.length c2] w (AuEnd 2 [] [] w) := by
  have H1 := Aside0.mk fun W (hW : Below w.heap.size w W) => check_calls ev st A c l W (Kd.C_below hr hW)
  rw [show checkVal ev st l = 0 from by simp [checkVal, h]] at H1
  have H2 := Aside0.mk fun W (hW : Below w.heap.size w W) => ranks_calls A1 c1 rk W (Kd.C_below hr1 hW) hc1
  have HF := Aside0.mk fun W (hW : Below w.heap.size w W) (hn : W.cell? ⟨w.heap.size, 0, none⟩ = some (.int .i64 ev)) => containsFunc_calls A2 c2 of 56 #[.pointer (some ⟨w.heap.size, 0, none⟩)] (fun _ => True) _ W (Kd.C_below hr2 hW) (fun _ _ => trivial) (auto1_pred _ _ _ hn) (fun _ _ => rfl)
  have hmf := run_mkfun
  have hm1 := hr1.2.1
  have hm2 := hr2.2.1
  clear hr hr1 hr2 hc1 h
  cases hrk : ranksB rk with
  | false =>
    rw [hrk] at H2
    clear ha hrk HF
    go_enter Try.func33, Try.ntmps33
    go_upto_region 1 with (fail)
    have HS := AB.start w #[.int .i64 ev, .int .i64 st, .slice A l.length c]
    generalize ((w.alloc (.cells #[.int .i64 ev, .int .i64 st, .slice A l.length c] 24)).alloc (.cells #[.slice none 0 0, .int .i64 0, .slice none 0 0] 44)) = w0 at *
    obtain ⟨hc0, hc1, hc2⟩ := box_cells HS.hs
    go_wp2_with fail
    refine (H1.out _ HS.hb).mono ?_
    rintro E w1 ⟨rfl, hb⟩
    have HS1 := HS.below hb
    clear hb HS hc0 hc1 hc2 H1
    go_wp2_with fail
    refine (H2.out _ HS1.hb).mono ?_
    rintro E w2 ⟨rfl, hb⟩
    have HS2 := HS1.below hb
    clear hb HS1 H2
    obtain ⟨⟨hc0, hf0⟩, ⟨hc1, hf1⟩, hc2, hf2⟩ := HS2.res
    go_wp2
    refine bodyPost_ret (results_row_tmp rfl _ _ (w.heap.size + 1) 44 #[.slice none 0 0, .int .i64 0, .slice none 0 0] (0, 0) _ rfl (HS2.out _ _ _).1 Try.underlying44 rfl (by kernel_rfl)) rfl ?_
    exact AuEnd.err HS2
  | true =>
    rw [hrk] at H2
    by_cases hlen : of.length = rk.length
    · have d0 : ((of.length : Int) == (rk.length : Int)) = true := beq_iff_eq.2 (by omega)
      have d1 : ((of.length : Int) != (rk.length : Int)) = false := bne_eq_false_iff_eq.2 (by omega)
      have hany : of.any (auBad ev) = true := by
        cases h : of.any (auBad ev) with
        | true => rfl
        | false => simp [auArgs, hrk, hlen, h] at ha
      rw [hany] at HF
      clear ha hrk hany hlen
      go_enter Try.func33, Try.ntmps33
      go_upto_region 1 with (fail)
      have HS := AB.start w #[.int .i64 ev, .int .i64 st, .slice A l.length c]
      generalize ((w.alloc (.cells #[.int .i64 ev, .int .i64 st, .slice A l.length c] 24)).alloc (.cells #[.slice none 0 0, .int .i64 0, .slice none 0 0] 44)) = w0 at *
      obtain ⟨hc0, hc1, hc2⟩ := box_cells HS.hs
      go_wp2_with fail
      refine (H1.out _ HS.hb).mono ?_
      rintro E w1 ⟨rfl, hb⟩
      have HS1 := HS.below hb
      clear hb HS hc0 hc1 hc2 H1
      go_wp2_with fail
      refine (H2.out _ HS1.hb).mono ?_
      rintro E w2 ⟨rfl, hb⟩
      have HS2 := HS1.below hb
      clear hb HS1 H2
      go_wp2_with fail
      refine (HF.out _ HS2.hb (box_cells HS2.hs).1).mono ?_
      rintro E w3 ⟨rfl, hb⟩
      have HS3 := HS2.below hb
      clear hb HS2 HF
      obtain ⟨⟨hc0, hf0⟩, ⟨hc1, hf1⟩, hc2, hf2⟩ := HS3.res
      go_wp2
      refine bodyPost_ret (results_row_tmp rfl _ _ (w.heap.size + 1) 44 #[.slice none 0 0, .int .i64 0, .slice none 0 0] (0, 0) _ rfl (HS3.out _ _ _).1 Try.underlying44 rfl (by kernel_rfl)) rfl ?_
      exact AuEnd.err HS3
    · have d0 : ((of.length : Int) == (rk.length : Int)) = false := beq_eq_false_iff_ne.2 (by omega)
      have d1 : ((of.length : Int) != (rk.length : Int)) = true := bne_iff_ne.2 (by omega)
      clear ha hrk hlen HF
      go_enter Try.func33, Try.ntmps33
      go_upto_region 1 with (fail)
      have HS := AB.start w #[.int .i64 ev, .int .i64 st, .slice A l.length c]
      generalize ((w.alloc (.cells #[.int .i64 ev, .int .i64 st, .slice A l.length c] 24)).alloc (.cells #[.slice none 0 0, .int .i64 0, .slice none 0 0] 44)) = w0 at *
      obtain ⟨hc0, hc1, hc2⟩ := box_cells HS.hs
      go_wp2_with fail
      refine (H1.out _ HS.hb).mono ?_
      rintro E w1 ⟨rfl, hb⟩
      have HS1 := HS.below hb
      clear hb HS hc0 hc1 hc2 H1
      go_wp2_with fail
      refine (H2.out _ HS1.hb).mono ?_
      rintro E w2 ⟨rfl, hb⟩
      have HS2 := HS1.below hb
      clear hb HS1 H2
      obtain ⟨⟨hc0, hf0⟩, ⟨hc1, hf1⟩, hc2, hf2⟩ := HS2.res
      go_wp2
      refine bodyPost_ret (results_row_tmp rfl _ _ (w.heap.size + 1) 44 #[.slice none 0 0, .int .i64 0, .slice none 0 0] (0, 0) _ rfl (HS2.out _ _ _).1 Try.underlying44 rfl (by kernel_rfl)) rfl ?_
      exact AuEnd.err HS2
end Go.Proofs.Ytmphigeefppfpaa.H
