/- What the automaton of a specification accepts: the plain law. -/
import Derived.Test.YtmphigeefppfpaaDoorBk
namespace Go.Proofs.YtmphigeefppfpaaDoor.H
open Go.RowKit Go.Proofs.YtmphigeefppfpaaDoorW.PrintWords Go.Proofs.YtmphigeefppfpaaDoorW.PrintLast Go.Proofs.YtmphigeefppfpaaDoorW.PrintMore
open Go.Proofs.YtmphigeefppfpaaDoor.PSpecPaths (S28 k28 rd_T28 z28 at_T28)
set_option linter.unusedVariables false

/-! ### the moves of a specification -/
theorem mv_row {rk of : List Int} {g : List (List Int)} {m q : Nat} (hq : q < m) : (auMoves rk of g m).getD q [] = auRow rk of (Q.rd_L1 g (q : Int)) q rk.length := by
  unfold auMoves
  rw [List.getD_eq_getElem?_getD, List.getElem?_map, List.getElem?_range hq]
  rfl
theorem mv_alts {rk of : List Int} {g : List (List Int)} {m q f : Nat} (hq : q < m) (hf : f < rk.length) : altsAt (auMoves rk of g m) q f = auAt rk of (Q.rd_L1 g (q : Int)) q f := by
  unfold altsAt
  rw [mv_row hq]
  unfold auRow
  rw [List.getD_eq_getElem?_getD, List.getElem?_map, List.getElem?_range hf]
  rfl
/-- Where a symbol leads. -/
theorem go_dom {n : Nat} {g : List (List Int)} {of : List Int} (hg : tableOk n g) {q f : Nat} (hq : q < g.length) (he : rd of (f : Int) < (n : Int)) : -1 ≤ auGo of (Q.rd_L1 g (q : Int)) q f ∧ auGo of (Q.rd_L1 g (q : Int)) q f < (g.length : Int) := by
  unfold auGo
  obtain ⟨h1, h2⟩ := trow hg (show domS g (q : Int) from ⟨by omega, by omega⟩)
  by_cases h : rd of (f : Int) ≥ 0
  · rw [if_pos h]
    have hlt : (rd of (f : Int)).toNat < (Q.rd_L1 g (q : Int)).length := by omega
    have hm : rd (Q.rd_L1 g (q : Int)) (rd of (f : Int)) ∈ Q.rd_L1 g (q : Int) := by
      have e : rd of (f : Int) = (((rd of (f : Int)).toNat : Nat) : Int) := by omega
      rw [e]
      exact rd_mem hlt
    exact h2 _ hm
  · rw [if_neg h]; omega
theorem needL_len (r tt : Int) : (needL r tt).length = r.toNat := by simp [needL]
theorem needL_at {r tt : Int} {i : Nat} (h : i < r.toNat) : (needL r tt).getD i zN = ⟨(i : Int), tt⟩ := by
  unfold needL
  rw [List.getD_eq_getElem?_getD, List.getElem?_map, List.getElem?_range h]
  rfl
theorem auOk_moves {n : Nat} {g : List (List Int)} {rk of : List Int} (hg : tableOk n g) (h1 : 1 ≤ g.length) (h6 : g.length ≤ 6) (hrk : ranksB rk = true) (hev : ∀ f : Nat, f < rk.length → rd of (f : Int) < (n : Int)) : AuOk rk (auMoves rk of g g.length) := by
  have hl := auMoves_len rk of g g.length
  refine ⟨hrk, by omega, ⟨by omega, fun q hq => ?_, fun q f hq hf l hlm x hx => ?_⟩, fun q f hq hf => ?_⟩
  · rw [mv_row (by omega), auRow_len]
  · rw [mv_alts (by omega) hf] at hlm
    unfold auAt at hlm
    have hd := go_dom hg (q := q) (f := f) (by omega) (hev f hf)
    by_cases h : auGo of (Q.rd_L1 g (q : Int)) q f < 0
    · rw [if_pos h] at hlm; cases hlm
    · rw [if_neg h, List.mem_singleton] at hlm
      subst hlm
      unfold needL at hx
      rw [List.mem_map] at hx
      obtain ⟨k, hk, rfl⟩ := hx
      rw [List.mem_range] at hk
      exact ⟨k, (auGo of (Q.rd_L1 g (q : Int)) q f).toNat, hk, by rw [hl]; omega, by rw [Int.toNat_of_nonneg (by omega)]⟩
  · rw [mv_alts (by omega) hf]
    unfold auAt
    split
    · exact ⟨by simp, fun l hl => by cases hl⟩
    · refine ⟨by simp, fun l hl => ?_⟩
      rw [List.mem_singleton] at hl
      subst hl
      have h4 := rank_le hrk hf
      rw [needL_len]
      refine ⟨by omega, fun i hi => ?_⟩
      rw [needL_at (by omega), needL_at (by omega)]
      show (i : Int) < ((i + 1 : Nat) : Int)
      omega
/-! ### what it accepts -/
theorem allowedL_all {g : List (List Int)} {of : List Int} {l : List S28} {q : Int} : allowedL g of l q = l.all fun t => allowedB g of t q := by
  induction l with
  | nil => rw [allowedL]; rfl
  | cons a r ih => rw [allowedL, ih]; rfl
theorem acc_allowed {n : Nat} {g : List (List Int)} {rk of : List Int} (hg : tableOk n g) (hev : ∀ f : Nat, f < rk.length → rd of (f : Int) < (n : Int)) (N : Nat) : ∀ t : S28, nodes t ≤ N → overB rk t = true → ∀ q : Nat, q < g.length → accT (auMoves rk of g g.length) t q = allowedB g of t (q : Int) := by
  induction N with
  | zero => intro t h; have := nodes_pos t; omega
  | succ N ih =>
    intro t h hov q hq
    obtain ⟨s, l⟩ := t
    rw [nodes] at h
    rw [overB, Bool.or_eq_true, Bool.and_eq_true, Bool.and_eq_true, Bool.and_eq_true, Bool.and_eq_true, decide_eq_true_eq, decide_eq_true_eq, decide_eq_true_eq, decide_eq_true_eq, decide_eq_true_eq] at hov
    rw [accT, allowedB]
    by_cases h1 : s = -1
    · rw [if_pos h1, if_pos h1]
    rw [if_neg h1, if_neg h1]
    obtain ⟨⟨⟨h2, h3⟩, h4⟩, h5⟩ := hov.resolve_left (fun hh => h1 hh.1)
    obtain ⟨f, rfl⟩ : ∃ f : Nat, s = (f : Int) := ⟨s.toNat, by omega⟩
    rw [Int.toNat_natCast, mv_alts hq (by omega)]
    have hd := go_dom hg hq (hev f (by omega))
    have key : ∀ tt : Int, 0 ≤ tt → tt < (g.length : Int) → ([needL (rd rk (f : Int)) tt].any fun al => al.all fun x => (accL (auMoves rk of g g.length) l).getD x.f0.toNat (fun _ => false) x.f1.toNat) = allowedL g of l tt := by
      intro tt ht0 ht1
      rw [List.any_cons, List.any_nil, Bool.or_false, allowedL_all, accL_map]
      have e1 : ((needL (rd rk (f : Int)) tt).all fun x => (l.map (accT (auMoves rk of g g.length))).getD x.f0.toNat (fun _ => false) x.f1.toNat) = true ↔ (l.all fun t => allowedB g of t tt) = true := by
        rw [List.all_eq_true, List.all_eq_true]
        constructor
        · intro hh t ht
          obtain ⟨k, hk, rfl⟩ := List.getElem_of_mem ht
          have := hh ⟨(k : Int), tt⟩ (by unfold needL; rw [List.mem_map]; exact ⟨k, List.mem_range.2 (by omega), rfl⟩)
          simp only [Int.toNat_natCast] at this
          rw [List.getD_eq_getElem?_getD, List.getElem?_map, List.getElem?_eq_getElem hk] at this
          have e := ih l[k] (by have := nodes_mem (List.getElem_mem hk); omega) (overL_mem h5 (List.getElem_mem hk)) tt.toNat (by omega)
          rw [Int.toNat_of_nonneg ht0] at e
          rw [← e]
          exact this
        · intro hh x hx
          unfold needL at hx
          rw [List.mem_map] at hx
          obtain ⟨k, hk, rfl⟩ := hx
          rw [List.mem_range] at hk
          have hk2 : k < l.length := by omega
          simp only [Int.toNat_natCast]
          rw [List.getD_eq_getElem?_getD, List.getElem?_map, List.getElem?_eq_getElem hk2]
          have e := ih l[k] (by have := nodes_mem (List.getElem_mem hk2); omega) (overL_mem h5 (List.getElem_mem hk2)) tt.toNat (by omega)
          rw [Int.toNat_of_nonneg ht0] at e
          show accT (auMoves rk of g g.length) l[k] tt.toNat = true
          rw [e]
          exact hh _ (List.getElem_mem hk2)
      cases ha : ((needL (rd rk (f : Int)) tt).all fun x => (l.map (accT (auMoves rk of g g.length))).getD x.f0.toNat (fun _ => false) x.f1.toNat) with
      | true => exact (e1.1 ha).symm
      | false =>
        cases hb : (l.all fun t => allowedB g of t tt) with
        | true => rw [e1.2 hb] at ha; cases ha
        | false => rfl
    unfold auAt
    by_cases h6 : rd of (f : Int) ≥ 0
    · rw [if_pos h6]
      have hgo : auGo of (Q.rd_L1 g (q : Int)) q f = rd (PSpecPaths.rd_L2 g (q : Int)) (rd of (f : Int)) := by unfold auGo; rw [if_pos h6]; rfl
      rw [hgo] at hd ⊢
      by_cases h7 : rd (PSpecPaths.rd_L2 g (q : Int)) (rd of (f : Int)) = -1
      · rw [if_pos h7, if_pos (by omega)]; rfl
      · rw [if_neg h7, if_neg (by omega)]
        exact key _ (by omega) hd.2
    · rw [if_neg h6]
      have hgo : auGo of (Q.rd_L1 g (q : Int)) q f = (q : Int) := by unfold auGo; rw [if_neg h6]
      rw [hgo, if_neg (by omega)]
      exact key _ (by omega) (by omega)
/-! ### two tables with the same words -/
theorem stepAt_dom {n : Nat} {g : List (List Int)} (hg : tableOk n g) {q : Int} (hq : domS g q) {e : Nat} (he : e < n) : -1 ≤ stepAt g q e ∧ stepAt g q e < (g.length : Int) := by
  obtain ⟨h1, h2⟩ := trow hg hq
  exact h2 _ (rd_mem (by omega))
theorem allowed_same {n : Nat} {g1 g2 : List (List Int)} {rk of : List Int} (hg1 : tableOk n g1) (hg2 : tableOk n g2) (hev : ∀ f : Nat, f < rk.length → rd of (f : Int) < (n : Int)) (N : Nat) :
    ∀ t : S28, nodes t ≤ N → overB rk t = true → ∀ q1 q2 : Int, domS g1 q1 → domS g2 q2 → Lq n (stepS g1) (stepS g2) q1 q2 → allowedB g1 of t q1 = allowedB g2 of t q2 := by
  induction N with
  | zero => intro t h; have := nodes_pos t; omega
  | succ N ih =>
    intro t h hov q1 q2 hq1 hq2 hL
    obtain ⟨s, l⟩ := t
    rw [nodes] at h
    rw [overB, Bool.or_eq_true, Bool.and_eq_true, Bool.and_eq_true, Bool.and_eq_true, Bool.and_eq_true, decide_eq_true_eq, decide_eq_true_eq, decide_eq_true_eq, decide_eq_true_eq, decide_eq_true_eq] at hov
    rw [allowedB, allowedB]
    by_cases h1 : s = -1
    · rw [if_pos h1, if_pos h1]
    rw [if_neg h1, if_neg h1]
    obtain ⟨⟨⟨h2, h3⟩, h4⟩, h5⟩ := hov.resolve_left (fun hh => h1 hh.1)
    obtain ⟨f, rfl⟩ : ∃ f : Nat, s = (f : Int) := ⟨s.toNat, by omega⟩
    have kids : ∀ p1 p2 : Int, domS g1 p1 → domS g2 p2 → Lq n (stepS g1) (stepS g2) p1 p2 → allowedL g1 of l p1 = allowedL g2 of l p2 := fun p1 p2 hp1 hp2 hp => by
      rw [allowedL_all, allowedL_all]
      exact all_congr fun t ht => ih t (by have := nodes_mem ht; omega) (overL_mem h5 ht) p1 p2 hp1 hp2 hp
    by_cases h6 : rd of (f : Int) ≥ 0
    · rw [if_pos h6, if_pos h6]
      have he := hev f (by omega)
      obtain ⟨e, hee⟩ : ∃ e : Nat, rd of (f : Int) = (e : Int) := ⟨(rd of (f : Int)).toNat, by omega⟩
      rw [hee] at he ⊢
      have he2 : e < n := by omega
      have d1 := stepAt_dom hg1 hq1 he2
      have d2 := stepAt_dom hg2 hq2 he2
      have e1 := hL [e] (fun a ha => by rw [List.mem_singleton] at ha; omega)
      have hw : ∀ w, Wd n w → acc (stepS g1) q1 (e :: w) = acc (stepS g2) q2 (e :: w) := fun w hw => hL (e :: w) (Wd.cons he2 hw)
      simp only [acc, stepS, Bool.and_true] at e1 hw
      have x1 : rd (PSpecPaths.rd_L2 g1 q1) (e : Int) = stepAt g1 q1 e := rfl
      have x2 : rd (PSpecPaths.rd_L2 g2 q2) (e : Int) = stepAt g2 q2 e := rfl
      rw [x1, x2]
      by_cases h7 : stepAt g1 q1 e = -1
      · have : ¬ stepAt g1 q1 e ≥ 0 := by omega
        rw [decide_eq_false this] at e1
        have h8 : ¬ stepAt g2 q2 e ≥ 0 := of_decide_eq_false e1.symm
        rw [if_pos h7, if_pos (by omega)]
      · have hp : stepAt g1 q1 e ≥ 0 := by omega
        rw [decide_eq_true hp] at e1
        have h8 : stepAt g2 q2 e ≥ 0 := of_decide_eq_true e1.symm
        rw [if_neg h7, if_neg (by omega)]
        refine kids _ _ ⟨by omega, d1.2⟩ ⟨by omega, d2.2⟩ fun w hw2 => ?_
        have := hw w hw2
        rw [decide_eq_true hp, decide_eq_true h8, Bool.true_and, Bool.true_and] at this
        exact this
    · rw [if_neg h6, if_neg h6]
      exact kids q1 q2 hq1 hq2 hL
end Go.Proofs.YtmphigeefppfpaaDoor.H
