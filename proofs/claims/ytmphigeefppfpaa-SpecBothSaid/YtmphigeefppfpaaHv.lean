/- What spec.least's classes are: the states with the same words. Plain Lean. -/
import Derived.Test.YtmphigeefppfpaaHg
import Derived.Test.YtmphigeefppfpaaHu
namespace Go.Proofs.Ytmphigeefppfpaa.H
open Go.RowKit Go.Proofs.YtmphigeefppfpaaW.PrintWords Go.Proofs.YtmphigeefppfpaaW.PrintLast Go.Proofs.YtmphigeefppfpaaW.PrintMore
set_option linter.unusedVariables false

theorem exists_least {P : Nat → Prop} (h : ∃ k, P k) : ∃ k, P k ∧ ∀ j, j < k → ¬ P j := by
  obtain ⟨k, hk⟩ := h
  induction k using Nat.strongRecOn with
  | _ k ih =>
    by_cases h : ∃ j, j < k ∧ P j
    · obtain ⟨j, hj, hp⟩ := h
      exact ih j hj hp
    · exact ⟨k, hk, fun j hj hp => h ⟨j, hj, hp⟩⟩

/-! ### the numbers of the faces -/
theorem facesTo_pre (c : List Int) (g : List (List Int)) (j d : Nat) : ∃ r, (facesTo c g (j + d)).1 = (facesTo c g j).1 ++ r := by
  induction d with
  | zero => exact ⟨[], by simp⟩
  | succ d ih =>
    obtain ⟨r, hr⟩ := ih
    rw [← Nat.add_assoc]
    simp only [facesTo]
    obtain ⟨r2, h2⟩ := ins_pre (facesTo c g (j + d)).1 (face c g (j + d))
    exact ⟨r ++ r2, by rw [h2, hr, List.append_assoc]⟩
theorem facesTo_at (c : List Int) (g : List (List Int)) : ∀ j q, q < j → face c g q ∈ (facesTo c g j).1 ∧ rd (facesTo c g j).2 q = (place (face c g q) (facesTo c g j).1 : Int)
  | 0, q, h => absurd h (Nat.not_lt_zero _)
  | j + 1, q, h => by
    have hl := facesTo_len c g j
    simp only [facesTo]
    rcases Nat.lt_or_ge q j with hq | hq
    · obtain ⟨h1, h2⟩ := facesTo_at c g j q hq
      obtain ⟨r, hr⟩ := ins_pre (facesTo c g j).1 (face c g j)
      refine ⟨ins_sub h1, ?_⟩
      rw [hr, place_pre h1, ← h2]
      simp only [rd, Int.toNat_natCast, List.getD_eq_getElem?_getD]
      rw [List.getElem?_append_left (by omega)]
    · obtain rfl : q = j := by omega
      refine ⟨ins_mem _ _, ?_⟩
      rw [place_ins]
      simp only [rd, Int.toNat_natCast, List.getD_eq_getElem?_getD]
      rw [List.getElem?_append_right (by omega), hl, Nat.sub_self]
      rfl
theorem place_inj {α : Type} [DecidableEq α] {q : List α} {x y : α} (hx : x ∈ q) (hy : y ∈ q) (h : place x q = place y q) : x = y := by
  have h1 := place_mem.1 hx
  have h2 := place_mem.1 hy
  have e1 : q[place x q] = x := List.getElem_idxOf h1
  have e2 : q[place y q] = y := List.getElem_idxOf h2
  rw [← e1, ← e2]
  congr 1
theorem faces_many (c : List Int) (g : List (List Int)) (A : Nat → Int) : ∀ j, (∀ p q, p < j → q < j → (A p = A q ↔ face c g p = face c g q)) → (facesTo c g j).1.length = (firsts A j).length
  | 0, _ => rfl
  | j + 1, h => by
    have ih := faces_many c g A j (fun p q hp hq => h p q (by omega) (by omega))
    have hmem : face c g j ∈ (facesTo c g j).1 ↔ ∃ p, p < j ∧ face c g p = face c g j := by
      constructor
      · intro hm
        have key : ∀ i, ∀ f ∈ (facesTo c g i).1, ∃ p, p < i ∧ face c g p = f := by
          intro i
          induction i with
          | zero => intro f hf; simp [facesTo] at hf
          | succ i ihi =>
            intro f hf
            simp only [facesTo, ins] at hf
            split at hf
            · obtain ⟨p, hp, he⟩ := ihi f hf; exact ⟨p, by omega, he⟩
            · rcases List.mem_append.1 hf with hf | hf
              · obtain ⟨p, hp, he⟩ := ihi f hf; exact ⟨p, by omega, he⟩
              · exact ⟨i, by omega, (List.mem_singleton.1 hf).symm⟩
        exact key j _ hm
      · rintro ⟨p, hp, he⟩
        rw [← he]; exact (facesTo_at c g j p hp).1
    have hf : firsts A (j + 1) = firsts A j ++ (if (List.range j).all fun i => decide (A i ≠ A j) then [j] else []) := by
      unfold firsts
      rw [List.range_succ, List.filter_append]
      congr 1
      simp only [List.filter_cons, List.filter_nil]
    simp only [facesTo, ins]
    rw [hf, List.length_append, ← ih]
    by_cases hm : face c g j ∈ (facesTo c g j).1
    · rw [if_pos hm]
      obtain ⟨p, hp, he⟩ := hmem.1 hm
      rw [if_neg (by
        simp only [List.all_eq_true, List.mem_range, decide_eq_true_eq]
        exact fun hh => hh p hp ((h p j (by omega) (by omega)).2 he))]
      rfl
    · rw [if_neg hm, List.length_append, if_pos (by
        simp only [List.all_eq_true, List.mem_range, decide_eq_true_eq]
        exact fun p hp he => hm (hmem.2 ⟨p, hp, (h p j (by omega) (by omega)).1 he⟩))]
      rfl

/-- Two faces are one if the classes are, and the classes behind each event. -/
theorem face_eq {n : Nat} {c : List Int} {g : List (List Int)} (hok : graphOk n g) (hc : c.length = g.length) (hc0 : ∀ x ∈ c, 0 ≤ x) {p q : Nat} (hp : p < g.length) (hq : q < g.length) :
    face c g p = face c g q ↔ rd c p = rd c q ∧ ∀ e, e < n → (stepS g p e).2 = (stepS g q e).2 ∧ ((stepS g p e).2 = true → rd c (stepS g p e).1 = rd c (stepS g q e).1) := by
  obtain ⟨lp, rp⟩ := row_at hok hp
  obtain ⟨lq, rq⟩ := row_at hok hq
  have hV : ∀ r, -1 ≤ r ∧ r < (g.length : Int) → (r < 0 → faceV c r = -1) ∧ (¬ r < 0 → faceV c r = rd c r ∧ 0 ≤ rd c r) := by
    intro r hr
    refine ⟨fun h => if_pos h, fun h => ⟨if_neg h, hc0 _ (rd_mem' (by omega) (by omega))⟩⟩
  have hfa : ∀ (h h' : Int) (y y' : List Int), y.length = y'.length → (faceTo c h y y.length = faceTo c h' y' y'.length ↔ h = h' ∧ y.map (faceV c) = y'.map (faceV c)) := by
    intro h h' y y' hl
    unfold faceTo
    rw [List.take_length, List.take_length, hl, List.append_cancel_right_eq, List.cons.injEq]
  unfold face
  rw [hfa _ _ _ _ (lp.trans lq.symm)]
  refine and_congr_right fun _ => ?_
  have hget : ∀ (e : Nat) (y : List Int) (he : e < y.length), (y.map (faceV c))[e]'(by simpa using he) = faceV c (rd y e) := fun e y he => by rw [List.getElem_map, rd_at he]
  have hst : ∀ (j e : Nat), stepS g (j : Int) e = (rd (Q.rd_L1 g (j : Int)) e, decide (rd (Q.rd_L1 g (j : Int)) e ≥ 0)) := fun j e => rfl
  constructor
  · intro h e he
    have h1 : faceV c (rd (Q.rd_L1 g p) e) = faceV c (rd (Q.rd_L1 g q) e) := by
      rw [← hget e _ (by omega), ← hget e _ (by omega)]
      congr 1
    have hvp := hV _ (rp _ (rd_mem (k := e) (by omega)))
    have hvq := hV _ (rq _ (rd_mem (k := e) (by omega)))
    rw [hst, hst]
    simp only
    by_cases n1 : rd (Q.rd_L1 g p) e < 0 <;> by_cases n2 : rd (Q.rd_L1 g q) e < 0
    · exact ⟨by rw [decide_eq_false (by omega), decide_eq_false (by omega)], fun h => by simp at h; omega⟩
    · have a := hvp.1 n1; have b := hvq.2 n2
      omega
    · have a := hvp.2 n1; have b := hvq.1 n2
      omega
    · have a := hvp.2 n1; have b := hvq.2 n2
      exact ⟨by rw [decide_eq_true (by omega), decide_eq_true (by omega)], fun _ => by rw [← a.1, ← b.1]; exact h1⟩
  · intro h
    apply List.ext_getElem
    · rw [List.length_map, List.length_map, lp, lq]
    · intro e h1 h2
      have he : e < n := by rw [List.length_map, lp] at h1; exact h1
      rw [hget e _ (by omega), hget e _ (by omega)]
      have h3 := h e he
      rw [hst, hst] at h3
      simp only at h3
      have hvp := hV _ (rp _ (rd_mem (k := e) (by omega)))
      have hvq := hV _ (rq _ (rd_mem (k := e) (by omega)))
      by_cases n1 : rd (Q.rd_L1 g p) e < 0
      · have n2 : rd (Q.rd_L1 g q) e < 0 := by
          have := h3.1
          rw [decide_eq_false (by omega)] at this
          have := of_decide_eq_false this.symm
          omega
        rw [hvp.1 n1, hvq.1 n2]
      · have n2 : ¬ rd (Q.rd_L1 g q) e < 0 := by
          have := h3.1
          rw [decide_eq_true (by omega)] at this
          have := of_decide_eq_true this.symm
          omega
        rw [(hvp.2 n1).1, (hvq.2 n2).1]
        exact h3.2 (decide_eq_true (by omega))

/-- The classes of the rounds, of a graph. -/
def clsAt (g : List (List Int)) (k : Nat) (x : Int) : Int := rd (clsTo g k).1 x
def domG (g : List (List Int)) (x : Int) : Prop := 0 ≤ x ∧ x < (g.length : Int)
theorem graph_dom {n : Nat} {g : List (List Int)} (hok : graphOk n g) : ∀ x e, domG g x → e < n → (stepS g x e).2 = true → domG g (stepS g x e).1 := by
  intro x e hx he h
  obtain ⟨j, rfl⟩ : ∃ j : Nat, x = (j : Int) := ⟨x.toNat, by have := hx.1; omega⟩
  have hj : j < g.length := by have := hx.2; omega
  obtain ⟨h1, h2⟩ := row_at hok hj
  have h3 := h2 _ (rd_mem (k := e) (by omega))
  simp only [stepS, decide_eq_true_eq] at h ⊢
  exact ⟨h, h3.2⟩
theorem cls_refines {n : Nat} {g : List (List Int)} (hok : graphOk n g) (hg : 1 ≤ g.length) : Refines n (stepS g) (domG g) (clsAt g) where
  zero := fun x y hx hy => by
    have key : ∀ x, domG g x → clsAt g 0 x = 0 := fun x hx => by
      have : x.toNat < g.length := by have := hx.1; have := hx.2; omega
      simp [clsAt, clsTo, rd, List.getD_eq_getElem?_getD, this]
    rw [key x hx, key y hy]
  succ := fun k x y hx hy => by
    obtain ⟨p, rfl⟩ : ∃ j : Nat, x = (j : Int) := ⟨x.toNat, by have := hx.1; omega⟩
    obtain ⟨q, rfl⟩ : ∃ j : Nat, y = (j : Int) := ⟨y.toNat, by have := hy.1; omega⟩
    have hp : p < g.length := by have := hx.2; omega
    have hq : q < g.length := by have := hy.2; omega
    have hfe := face_eq hok (clsTo_len g k) (fun x hx => (clsTo_range g hg k x hx).1) hp hq
    refine Iff.trans ?_ hfe
    obtain ⟨m1, e1⟩ := facesTo_at (clsTo g k).1 g g.length p hp
    obtain ⟨m2, e2⟩ := facesTo_at (clsTo g k).1 g g.length q hq
    show rd (facesTo (clsTo g k).1 g g.length).2 p = rd (facesTo (clsTo g k).1 g g.length).2 q ↔ _
    rw [e1, e2]
    exact ⟨fun h => place_inj m1 m2 (by omega), fun h => by rw [h]⟩
  dom := graph_dom hok
theorem cls_many {n : Nat} {g : List (List Int)} (hok : graphOk n g) (hg : 1 ≤ g.length) (k : Nat) : (clsTo g k).2 = (firsts (fun i => clsAt g k i) g.length).length := by
  cases k with
  | zero =>
    have hz : ∀ i : Nat, i < g.length → clsAt g 0 i = 0 := fun x hx => by
      simp [clsAt, clsTo, rd, List.getD_eq_getElem?_getD, hx]
    have : firsts (fun i => clsAt g 0 i) g.length = [0] := by
      obtain ⟨d, hd⟩ : ∃ d, g.length = d + 1 := ⟨g.length - 1, by omega⟩
      unfold firsts
      rw [hd, List.range_succ_eq_map, List.filter_cons_of_pos (by simp), List.filter_map, List.filter_eq_nil_iff.2 ?_]
      · rfl
      · intro i hi
        have hi' := List.mem_range.1 hi
        simp only [Function.comp, List.all_eq_true, List.mem_range, decide_eq_true_eq]
        exact fun hh => hh 0 (by omega) ((hz 0 (by omega)).trans (hz (i + 1) (by omega)).symm)
    rw [this]; rfl
  | succ k =>
    show (facesTo (clsTo g k).1 g g.length).1.length = _
    refine faces_many _ g _ g.length fun p q hp hq => ?_
    obtain ⟨m1, e1⟩ := facesTo_at (clsTo g k).1 g g.length p hp
    obtain ⟨m2, e2⟩ := facesTo_at (clsTo g k).1 g g.length q hq
    show rd (facesTo (clsTo g k).1 g g.length).2 p = rd (facesTo (clsTo g k).1 g g.length).2 q ↔ _
    rw [e1, e2]
    exact ⟨fun h => place_inj m1 m2 (by omega), fun h => by rw [h]⟩
end Go.Proofs.Ytmphigeefppfpaa.H
