/- Finite trees: how many nodes, how deep, over which ranks; and what the printed functions answer of them. -/
import Derived.Test.YtmphigeefppfpaaDoorAa
import Derived.Test.YtmphigeefppfpaaDoorPSpecPathsx
namespace Go.Proofs.YtmphigeefppfpaaDoor.H
open Go.RowKit Go.Proofs.YtmphigeefppfpaaDoorW.PrintWords Go.Proofs.YtmphigeefppfpaaDoorW.PrintLast Go.Proofs.YtmphigeefppfpaaDoorW.PrintMore
open Go.Proofs.YtmphigeefppfpaaDoor.PSpecPaths (S28 k28 rd_T28 z28)
set_option linter.unusedVariables false

mutual
def nodes : S28 → Nat
  | ⟨_, l⟩ => nodesL l + 1
def nodesL : List S28 → Nat
  | [] => 0
  | t :: r => nodes t + nodesL r
end
mutual
def depth : S28 → Nat
  | ⟨_, l⟩ => depthL l + 1
def depthL : List S28 → Nat
  | [] => 0
  | t :: r => max (depth t) (depthL r)
end
mutual
def overB (rk : List Int) : S28 → Bool
  | ⟨s, l⟩ => (decide (s = -1) && decide (l.length = 0)) || (decide (0 ≤ s) && decide (s < (rk.length : Int)) && decide ((l.length : Int) = rd rk s) && overL rk l)
def overL (rk : List Int) : List S28 → Bool
  | [] => true
  | t :: r => overB rk t && overL rk r
end
mutual
def allowedB (g : List (List Int)) (of : List Int) : S28 → Int → Bool
  | ⟨s, l⟩, q => if s = -1 then true else if rd of s ≥ 0 then (if rd (PSpecPaths.rd_L2 g q) (rd of s) = -1 then false else allowedL g of l (rd (PSpecPaths.rd_L2 g q) (rd of s))) else allowedL g of l q
def allowedL (g : List (List Int)) (of : List Int) : List S28 → Int → Bool
  | [], _ => true
  | t :: r, q => allowedB g of t q && allowedL g of r q
end
theorem nodes_pos (t : S28) : 1 ≤ nodes t := by
  cases t
  rw [nodes]
  omega
theorem nodes_mem {l : List S28} {t : S28} (h : t ∈ l) : nodes t ≤ nodesL l := by
  induction l with
  | nil => cases h
  | cons a r ih =>
    rw [nodesL]
    rcases List.mem_cons.1 h with rfl | h
    · omega
    · have := ih h; omega
theorem depth_le_aux (n : Nat) : ∀ t : S28, nodes t ≤ n → depth t ≤ nodes t := by
  induction n with
  | zero => intro t h; have := nodes_pos t; omega
  | succ n ih =>
    intro t h
    obtain ⟨s, l⟩ := t
    rw [nodes] at h ⊢
    rw [depth]
    have : ∀ l : List S28, nodesL l ≤ n → depthL l ≤ nodesL l := by
      intro l
      induction l with
      | nil => intro _; simp [depthL]
      | cons a r ihr =>
        intro h
        rw [nodesL] at h ⊢
        rw [depthL]
        have h1 := ih a (by omega)
        have h2 := ihr (by omega)
        omega
    have := this l (by omega)
    omega
theorem depth_le (t : S28) : depth t ≤ nodes t := depth_le_aux _ t (Nat.le_refl _)
theorem rdT_at {l : List S28} {j : Nat} (h : j < l.length) : rd_T28 l (j : Int) = l[j] := by simp [rd_T28, List.getD_eq_getElem?_getD, List.getElem?_eq_getElem h]
theorem dropT {l : List S28} {j : Nat} (h : j < l.length) : l.drop j = l[j] :: l.drop (j + 1) := (List.drop_eq_getElem_cons h)

/-! ### the count that stops early -/
mutual
def nodesF : S28 → Int → Int
  | ⟨_, l⟩, most => nodesG l 1 most
def nodesG : List S28 → Int → Int → Int
  | [], n, _ => n
  | t :: r, n, most => if n ≤ most then nodesG r (n + nodesF t (most - n)) most else n
end
theorem nodesF_aux (n : Nat) : ∀ t : S28, nodes t ≤ n → ∀ most : Int, 0 ≤ most → 1 ≤ nodesF t most ∧ nodesF t most ≤ most + 1 ∧ ((nodes t : Int) ≤ most → nodesF t most = nodes t) ∧ (nodesF t most ≤ most → (nodes t : Int) ≤ most) := by
  induction n with
  | zero => intro t h; have := nodes_pos t; omega
  | succ n ih =>
    intro t h most hm
    obtain ⟨s, l⟩ := t
    rw [nodes] at h ⊢
    rw [nodesF]
    have key : ∀ l : List S28, nodesL l ≤ n → ∀ c : Int, 1 ≤ c → c ≤ most + 1 → c ≤ nodesG l c most ∧ nodesG l c most ≤ most + 1 ∧ (c + (nodesL l : Int) ≤ most → nodesG l c most = c + nodesL l) ∧ (nodesG l c most ≤ most → c + (nodesL l : Int) ≤ most) := by
      intro l
      induction l with
      | nil => intro _ c h1 h2; simp only [nodesG, nodesL]; omega
      | cons a r ihr =>
        intro h c h1 h2
        rw [nodesL] at h ⊢
        rw [nodesG]
        by_cases hc : c ≤ most
        · rw [if_pos hc]
          have ha := ih a (by omega) (most - c) (by omega)
          have hp := nodes_pos a
          have hr := ihr (by omega) (c + nodesF a (most - c)) (by omega) (by omega)
          obtain ⟨a1, a2, a3, a4⟩ := ha
          obtain ⟨r1, r2, r3, r4⟩ := hr
          refine ⟨by omega, r2, fun hh => ?_, fun hh => ?_⟩
          · have e := a3 (by omega)
            rw [e] at r3 ⊢
            have := r3 (by omega)
            omega
          · have e1 := r4 hh
            have e2 := a4 (by omega)
            have e := a3 e2
            omega
        · rw [if_neg hc]
          have hp := nodes_pos a
          omega
    have := key l (by omega) 1 (by omega) (by omega)
    omega
theorem nodesF_spec (t : S28) {most : Int} (hm : 0 ≤ most) : 1 ≤ nodesF t most ∧ nodesF t most ≤ most + 1 ∧ ((nodes t : Int) ≤ most → nodesF t most = nodes t) ∧ (nodesF t most ≤ most → (nodes t : Int) ≤ most) := nodesF_aux _ t (Nat.le_refl _) most hm
theorem wr_id {x : Int} (h1 : -9223372036854775808 ≤ x) (h2 : x ≤ 9223372036854775807) : wrap64 x = x := by unfold wrap64; omega
theorem nodes_ev (N : Nat) : ∀ t : S28, nodes t ≤ N → ∀ most : Int, 0 ≤ most → most ≤ 20000 → Ev (fun k => PSpecPaths.virgationref06_Nodes.f k t.f0 t.f1 most) (nodesF t most) := by
  induction N with
  | zero => intro t h; have := nodes_pos t; omega
  | succ N ih =>
    intro t h most hm hm2
    obtain ⟨s, l⟩ := t
    rw [nodes] at h
    have loop : ∀ d j : Nat, l.length - j = d → j ≤ l.length → ∀ n : Int, (j : Int) + 1 ≤ n → n ≤ most + 1 → Ev (fun k => PSpecPaths.virgationref06_Nodes.l0 k most n (j : Int) s l) (nodesG (l.drop j) n most) := by
      intro d
      induction d with
      | zero =>
        intro j hd hj n h1 h2
        refine ev_end fun k => ?_
        simp only [PSpecPaths.virgationref06_Nodes.l0]
        rw [if_neg (by omega), List.drop_eq_nil_of_le (by omega), nodesG]
      | succ d ihd =>
        intro j hd hj n h1 h2
        have hlt : j < l.length := by omega
        rw [dropT hlt, nodesG]
        by_cases hc : n ≤ most
        · rw [if_pos hc]
          have hsp := nodesF_spec l[j] (most := most - n) (by omega)
          have e1 := ih l[j] (by have := nodes_mem (List.getElem_mem hlt); omega) (most - n) (by omega) (by omega)
          have e2 := ihd (j + 1) (by omega) (by omega) (n + nodesF l[j] (most - n)) (by omega) (by omega)
          rw [show ((j + 1 : Nat) : Int) = wrap64 ((j : Int) + 1) from (wrap_succ (i := (j : Int)) (by omega) (by omega)).symm] at e2
          refine ev_next (Ev.bind (f := fun k t => PSpecPaths.virgationref06_Nodes.l0 k most (wrap64 (n + t)) (wrap64 ((j : Int) + 1)) s l) e1 ?_) fun k => ?_
          · rw [wr_id (x := n + nodesF l[j] (most - n)) (by omega) (by omega)]
            exact e2
          · simp only [PSpecPaths.virgationref06_Nodes.l0]
            rw [if_pos (by omega), if_pos hc, if_pos (by omega), rdT_at hlt, wr_id (by omega) (by omega)]
        · rw [if_neg hc]
          refine ev_end fun k => ?_
          simp only [PSpecPaths.virgationref06_Nodes.l0]
          rw [if_pos (by omega), if_neg hc]
    rw [nodesF]
    have e := loop l.length 0 (by omega) (by omega) 1 (by omega) (by omega)
    rw [List.drop_zero] at e
    refine ev_next e fun k => ?_
    simp only [PSpecPaths.virgationref06_Nodes.f]
    rfl
theorem mx_nat (a b : Nat) : mx (a : Int) (b : Int) = ((max a b : Nat) : Int) := by unfold mx; split <;> omega
theorem depth_ev (N : Nat) : ∀ t : S28, nodes t ≤ N → N ≤ 20000 → Ev (fun k => PSpecPaths.virgationref06_Depth.f k t.f0 t.f1) (depth t : Int) := by
  induction N with
  | zero => intro t h; have := nodes_pos t; omega
  | succ N ih =>
    intro t h hN
    obtain ⟨s, l⟩ := t
    have hd0 := depth_le ⟨s, l⟩
    rw [nodes] at h
    have hll : l.length ≤ nodesL l := by
      clear h ih hd0
      induction l with
      | nil => simp
      | cons a r ih => rw [nodesL, List.length_cons]; have := nodes_pos a; omega
    have loop : ∀ d j : Nat, l.length - j = d → j ≤ l.length → ∀ m : Nat, m ≤ 20000 → depthL (l.drop j) ≤ 20000 → Ev (fun k => PSpecPaths.virgationref06_Depth.l0 k (m : Int) l (l.length : Int) (j : Int)) (((max m (depthL (l.drop j)) + 1 : Nat)) : Int) := by
      intro d
      induction d with
      | zero =>
        intro j hd hj m hm hdd
        refine ev_end fun k => ?_
        simp only [PSpecPaths.virgationref06_Depth.l0]
        rw [if_neg (by omega), List.drop_eq_nil_of_le (by omega), depthL, wrap_succ (by omega) (by omega)]
        simp
      | succ d ihd =>
        intro j hd hj m hm hdd
        have hlt : j < l.length := by omega
        rw [dropT hlt, depthL] at hdd ⊢
        have e1 := ih l[j] (by have := nodes_mem (List.getElem_mem hlt); omega) (by omega)
        have e2 := ihd (j + 1) (by omega) (by omega) (max m (depth l[j])) (by omega) (by omega)
        rw [show ((j + 1 : Nat) : Int) = wrap64 ((j : Int) + 1) from (wrap_succ (i := (j : Int)) (by omega) (by omega)).symm] at e2
        rw [show max m (max (depth l[j]) (depthL (l.drop (j + 1)))) = max (max m (depth l[j])) (depthL (l.drop (j + 1))) by omega]
        refine ev_next (Ev.bind (f := fun k t => PSpecPaths.virgationref06_Depth.l0 k (mx (m : Int) t) l (l.length : Int) (wrap64 ((j : Int) + 1))) e1 ?_) fun k => ?_
        · rw [mx_nat]
          exact e2
        · simp only [PSpecPaths.virgationref06_Depth.l0]
          rw [if_pos (by omega), if_pos (by omega), if_pos (by omega), rdT_at hlt]
    rw [depth] at hd0 ⊢
    have e := loop l.length 0 (by omega) (by omega) 0 (by omega) (by rw [List.drop_zero]; rw [nodes] at hd0; omega)
    rw [List.drop_zero, Nat.zero_max] at e
    refine ev_next e fun k => ?_
    simp only [PSpecPaths.virgationref06_Depth.f]
    rfl
theorem lens_le {l : List S28} : l.length ≤ nodesL l := by
  induction l with
  | nil => simp
  | cons a r ih => rw [nodesL, List.length_cons]; have := nodes_pos a; omega
theorem overL_nil {rk : List Int} {l : List S28} (h : l.length = 0) : overL rk l = true := by
  have := List.eq_nil_of_length_eq_zero h
  subst this
  rw [overL]
theorem rover_ev (rk : List Int) (N : Nat) : ∀ t : S28, nodes t ≤ N → N ≤ 20000 → Ev (fun k => PSpecPaths.virgationref06_over.f k rk t.f0 t.f1) (overB rk t) := by
  induction N with
  | zero => intro t h; have := nodes_pos t; omega
  | succ N ih =>
    intro t h hN
    obtain ⟨s, l⟩ := t
    rw [nodes] at h
    have hll := lens_le (l := l)
    have loop : ∀ d j : Nat, l.length - j = d → j ≤ l.length → Ev (fun k => PSpecPaths.virgationref06_over.l0 k rk l (l.length : Int) (j : Int)) (overL rk (l.drop j)) := by
      intro d
      induction d with
      | zero =>
        intro j hd hj
        refine ev_end fun k => ?_
        simp only [PSpecPaths.virgationref06_over.l0]
        rw [if_neg (by omega), List.drop_eq_nil_of_le (by omega), overL]
      | succ d ihd =>
        intro j hd hj
        have hlt : j < l.length := by omega
        rw [dropT hlt, overL]
        have e1 := ih l[j] (by have := nodes_mem (List.getElem_mem hlt); omega) (by omega)
        have e2 := ihd (j + 1) (by omega) (by omega)
        rw [show ((j + 1 : Nat) : Int) = wrap64 ((j : Int) + 1) from (wrap_succ (i := (j : Int)) (by omega) (by omega)).symm] at e2
        refine ev_next (Ev.bind (f := fun k t => if t = true then PSpecPaths.virgationref06_over.l0 k rk l (l.length : Int) (wrap64 ((j : Int) + 1)) else some false) e1 ?_) fun k => ?_
        · cases overB rk l[j] with
          | true => simpa using e2
          | false => simpa using Ev.now false
        · simp only [PSpecPaths.virgationref06_over.l0]
          rw [if_pos (by omega), if_pos (by omega), if_pos (by omega), rdT_at hlt]
    have hgo : Ev (fun k => PSpecPaths.virgationref06_over.j0 k rk false s l) (overL rk l) := by
      have e := loop l.length 0 (by omega) (by omega)
      rw [List.drop_zero] at e
      exact ev_next e fun k => by simp [PSpecPaths.virgationref06_over.j0]
    have hno : Ev (fun k => PSpecPaths.virgationref06_over.j0 k rk true s l) false := ev_end fun k => by simp [PSpecPaths.virgationref06_over.j0]
    rw [overB]
    by_cases h1 : s < -1
    · rw [decide_eq_false (by omega : ¬ s = -1), decide_eq_false (by omega : ¬ 0 ≤ s)]
      refine ev_next hno fun k => ?_
      simp only [PSpecPaths.virgationref06_over.f]
      rw [if_pos h1]
    by_cases h2 : s ≥ (rk.length : Int)
    · rw [decide_eq_false (by omega : ¬ s < (rk.length : Int)), decide_eq_false (by omega : ¬ s = -1)]
      simp only [Bool.false_and, Bool.and_false, Bool.or_false]
      refine ev_next hno fun k => ?_
      simp only [PSpecPaths.virgationref06_over.f]
      rw [if_neg h1, if_pos h2]
    by_cases h3 : s = -1
    · subst h3
      by_cases h4 : (l.length : Int) > 0
      · rw [decide_eq_false (by omega : ¬ l.length = 0)]
        refine ev_next hno fun k => ?_
        simp only [PSpecPaths.virgationref06_over.f]
        rw [if_neg h1, if_neg h2, if_pos trivial, if_pos h4]
      · rw [decide_eq_true (by omega : l.length = 0)]
        rw [overL_nil (by omega)] at hgo
        refine ev_next hgo fun k => ?_
        simp only [PSpecPaths.virgationref06_over.f]
        rw [if_neg h1, if_neg h2, if_pos trivial, if_neg h4, if_neg (by omega)]
    · rw [decide_eq_false h3, decide_eq_true (by omega : 0 ≤ s), decide_eq_true (by omega : s < (rk.length : Int))]
      by_cases h5 : (l.length : Int) = rd rk s
      · rw [decide_eq_true h5]
        simp only [Bool.false_and, Bool.false_or, Bool.true_and]
        refine ev_next hgo fun k => ?_
        simp only [PSpecPaths.virgationref06_over.f]
        rw [if_neg h1, if_neg h2, if_neg h3, if_pos (by omega), if_pos (by omega), if_pos (by omega), h5, bne_self_eq_false]
      · rw [decide_eq_false h5]
        simp only [Bool.false_and, Bool.false_or, Bool.and_false]
        refine ev_next hno fun k => ?_
        simp only [PSpecPaths.virgationref06_over.f]
        rw [if_neg h1, if_neg h2, if_neg h3, if_pos (by omega), if_pos (by omega), if_pos (by omega), show ((l.length : Int) != rd rk s) = true from bne_iff_ne.2 h5]
theorem tover_ev (rk : List Int) (N : Nat) : ∀ t : S28, nodes t ≤ N → N ≤ 20000 → Ev (fun k => PSpecPaths.tree_over.f k rk t.f0 t.f1) (overB rk t) := by
  induction N with
  | zero => intro t h; have := nodes_pos t; omega
  | succ N ih =>
    intro t h hN
    obtain ⟨s, l⟩ := t
    rw [nodes] at h
    have hll := lens_le (l := l)
    have loop : ∀ d j : Nat, l.length - j = d → j ≤ l.length → Ev (fun k => PSpecPaths.tree_over.l0 k rk l (l.length : Int) (j : Int)) (overL rk (l.drop j)) := by
      intro d
      induction d with
      | zero =>
        intro j hd hj
        refine ev_end fun k => ?_
        simp only [PSpecPaths.tree_over.l0]
        rw [if_neg (by omega), List.drop_eq_nil_of_le (by omega), overL]
      | succ d ihd =>
        intro j hd hj
        have hlt : j < l.length := by omega
        rw [dropT hlt, overL]
        have e1 := ih l[j] (by have := nodes_mem (List.getElem_mem hlt); omega) (by omega)
        have e2 := ihd (j + 1) (by omega) (by omega)
        rw [show ((j + 1 : Nat) : Int) = wrap64 ((j : Int) + 1) from (wrap_succ (i := (j : Int)) (by omega) (by omega)).symm] at e2
        refine ev_next (Ev.bind (f := fun k t => if t = true then PSpecPaths.tree_over.l0 k rk l (l.length : Int) (wrap64 ((j : Int) + 1)) else some false) e1 ?_) fun k => ?_
        · cases overB rk l[j] with
          | true => simpa using e2
          | false => simpa using Ev.now false
        · simp only [PSpecPaths.tree_over.l0]
          rw [if_pos (by omega), if_pos (by omega), if_pos (by omega), rdT_at hlt]
    have hgo : Ev (fun k => PSpecPaths.tree_over.j0 k rk false s l) (overL rk l) := by
      have e := loop l.length 0 (by omega) (by omega)
      rw [List.drop_zero] at e
      exact ev_next e fun k => by simp [PSpecPaths.tree_over.j0]
    have hno : Ev (fun k => PSpecPaths.tree_over.j0 k rk true s l) false := ev_end fun k => by simp [PSpecPaths.tree_over.j0]
    rw [overB]
    by_cases h3 : s = -1
    · subst h3
      refine ev_end fun k => ?_
      simp only [PSpecPaths.tree_over.f]
      rw [if_pos trivial]
      by_cases h4 : l.length = 0
      · simp [h4]
      · simp [h4]
    by_cases h1 : s < 0
    · rw [decide_eq_false h3, decide_eq_false (by omega : ¬ 0 ≤ s)]
      refine ev_next hno fun k => ?_
      simp only [PSpecPaths.tree_over.f]
      rw [if_neg h3, if_pos h1]
    by_cases h2 : s ≥ (rk.length : Int)
    · rw [decide_eq_false (by omega : ¬ s < (rk.length : Int)), decide_eq_false h3]
      simp only [Bool.false_and, Bool.and_false, Bool.or_false]
      refine ev_next hno fun k => ?_
      simp only [PSpecPaths.tree_over.f]
      rw [if_neg h3, if_neg h1, if_pos h2]
    · rw [decide_eq_false h3, decide_eq_true (by omega : 0 ≤ s), decide_eq_true (by omega : s < (rk.length : Int))]
      by_cases h5 : (l.length : Int) = rd rk s
      · rw [decide_eq_true h5]
        simp only [Bool.false_and, Bool.false_or, Bool.true_and]
        refine ev_next hgo fun k => ?_
        simp only [PSpecPaths.tree_over.f]
        rw [if_neg h3, if_neg h1, if_neg h2, if_pos (by omega), if_pos (by omega), h5, bne_self_eq_false]
      · rw [decide_eq_false h5]
        simp only [Bool.false_and, Bool.false_or, Bool.and_false]
        refine ev_next hno fun k => ?_
        simp only [PSpecPaths.tree_over.f]
        rw [if_neg h3, if_neg h1, if_neg h2, if_pos (by omega), if_pos (by omega), show ((l.length : Int) != rd rk s) = true from bne_iff_ne.2 h5]
/-- What the reference's Is answers. -/
def treeOk (rk : List Int) (t : S28) : Bool := decide (nodes t ≤ 20000) && decide (depth t ≤ 200) && overB rk t
theorem is_ev6 (rk : List Int) (t : S28) : Ev (fun k => PSpecPaths.virgationref06_Is.f k rk t.f0 t.f1) (treeOk rk t) := by
  have hsp := nodesF_spec t (most := 20000) (by omega)
  have e1 := nodes_ev _ t (Nat.le_refl _) 20000 (by omega) (by omega)
  unfold treeOk
  refine Ev.congr (fun k => by unfold PSpecPaths.virgationref06_Is.f; rfl) (Ev.bind (f := fun k t120 => if t120 ≤ 20000 then ((PSpecPaths.virgationref06_Depth.f k t.f0 t.f1).bind fun t121 => (if t121 ≤ 200 then ((PSpecPaths.virgationref06_over.f k rk t.f0 t.f1).bind fun t122 => (some t122)) else (some false))) else (some false)) e1 ?_)
  by_cases h1 : nodes t ≤ 20000
  · rw [decide_eq_true h1]
    have e2 := depth_ev _ t (Nat.le_refl _) h1
    have h2 : nodesF t 20000 ≤ 20000 := by have := hsp.2.2.1 (by omega); omega
    simp only [if_pos h2]
    refine Ev.bind (f := fun k t121 => (if t121 ≤ 200 then ((PSpecPaths.virgationref06_over.f k rk t.f0 t.f1).bind fun t122 => (some t122)) else (some false))) e2 ?_
    by_cases h3 : depth t ≤ 200
    · rw [decide_eq_true h3]
      simp only [if_pos (by omega : (depth t : Int) ≤ 200)]
      exact Ev.bind (f := fun _ t122 => some t122) (rover_ev rk _ t (Nat.le_refl _) h1) (Ev.now _)
    · rw [decide_eq_false h3]
      simp only [if_neg (by omega : ¬ (depth t : Int) ≤ 200)]
      exact Ev.now false
  · rw [decide_eq_false h1]
    have h2 : ¬ nodesF t 20000 ≤ 20000 := fun hh => by have := hsp.2.2.2 hh; omega
    simp only [if_neg h2]
    exact Ev.now false
theorem allowed_ev {n : Nat} {g : List (List Int)} {of rk : List Int} (ev st : Int) (hg : tableOk n g) (hof : of.length = rk.length) (hev : ∀ s : Int, 0 ≤ s → s < (of.length : Int) → rd of s < (n : Int)) (N : Nat) :
    ∀ t : S28, nodes t ≤ N → N ≤ 20000 → overB rk t = true → ∀ q, domS g q → Ev (fun k => PSpecPaths.virgationlaw11_allowed.f k ev st g of q t.f0 t.f1) (allowedB g of t q) := by
  induction N with
  | zero => intro t h; have := nodes_pos t; omega
  | succ N ih =>
    intro t h hN hov q hq
    obtain ⟨s, l⟩ := t
    rw [nodes] at h
    have hll := lens_le (l := l)
    have loop : ∀ q, domS g q → ∀ d j : Nat, l.length - j = d → j ≤ l.length → overL rk (l.drop j) = true → Ev (fun k => PSpecPaths.virgationlaw11_allowed.l0 k of q l (l.length : Int) (j : Int) ev st g) (allowedL g of (l.drop j) q) := by
      intro q hq d
      induction d with
      | zero =>
        intro j hd hj _
        refine ev_end fun k => ?_
        simp only [PSpecPaths.virgationlaw11_allowed.l0]
        rw [if_neg (by omega), List.drop_eq_nil_of_le (by omega), allowedL]
      | succ d ihd =>
        intro j hd hj hov
        have hlt : j < l.length := by omega
        rw [dropT hlt, overL, Bool.and_eq_true] at hov
        rw [dropT hlt, allowedL]
        have e1 := ih l[j] (by have := nodes_mem (List.getElem_mem hlt); omega) (by omega) hov.1 q hq
        have e2 := ihd (j + 1) (by omega) (by omega) hov.2
        rw [show ((j + 1 : Nat) : Int) = wrap64 ((j : Int) + 1) from (wrap_succ (i := (j : Int)) (by omega) (by omega)).symm] at e2
        refine ev_next (Ev.bind (f := fun k t => if t = true then PSpecPaths.virgationlaw11_allowed.l0 k of q l (l.length : Int) (wrap64 ((j : Int) + 1)) ev st g else some false) e1 ?_) fun k => ?_
        · cases allowedB g of l[j] q with
          | true => simpa using e2
          | false => simpa using Ev.now false
        · simp only [PSpecPaths.virgationlaw11_allowed.l0]
          rw [if_pos (by omega), if_pos (by omega), if_pos (by omega), rdT_at hlt]
    have hgo : overL rk l = true → ∀ q, domS g q → Ev (fun k => PSpecPaths.virgationlaw11_allowed.j0 k of q ev st g s l) (allowedL g of l q) := fun hl q hq => by
      have e := loop q hq l.length 0 (by omega) (by omega) (by rw [List.drop_zero]; exact hl)
      rw [List.drop_zero] at e
      exact ev_next e fun k => by simp [PSpecPaths.virgationlaw11_allowed.j0]
    rw [overB, Bool.or_eq_true, Bool.and_eq_true, Bool.and_eq_true, Bool.and_eq_true, Bool.and_eq_true, decide_eq_true_eq, decide_eq_true_eq, decide_eq_true_eq, decide_eq_true_eq, decide_eq_true_eq] at hov
    rw [allowedB]
    by_cases h1 : s = -1
    · rw [if_pos h1]
      refine ev_end fun k => ?_
      simp only [PSpecPaths.virgationlaw11_allowed.f]
      rw [if_pos h1]
    · rw [if_neg h1]
      obtain ⟨⟨⟨h2, h3⟩, h4⟩, h5⟩ := hov.resolve_left (fun hh => h1 hh.1)
      have hev1 := hev s h2 (by omega)
      by_cases h6 : rd of s ≥ 0
      · rw [if_pos h6]
        obtain ⟨hrl, hrv⟩ := trow hg hq
        have hrl2 : (PSpecPaths.rd_L2 g q).length = n := hrl
        by_cases h7 : rd (PSpecPaths.rd_L2 g q) (rd of s) = -1
        · rw [if_pos h7]
          refine ev_end fun k => ?_
          simp only [PSpecPaths.virgationlaw11_allowed.f]
          rw [if_neg h1, if_pos h2, if_pos (by omega), if_pos h6, if_pos hq.1, if_pos hq.2, if_pos h6, if_pos (by omega), if_pos h7]
        · rw [if_neg h7]
          have hd : domS g (rd (PSpecPaths.rd_L2 g q) (rd of s)) := by
            have hlt : (rd of s).toNat < (PSpecPaths.rd_L2 g q).length := by omega
            have hm : rd (PSpecPaths.rd_L2 g q) (rd of s) ∈ PSpecPaths.rd_L2 g q := by
              unfold rd at hlt h7 ⊢
              rw [List.getD_eq_getElem?_getD, List.getElem?_eq_getElem hlt, Option.getD_some]
              exact List.getElem_mem hlt
            have := hrv _ hm
            exact ⟨by omega, this.2⟩
          refine ev_next (hgo h5 _ hd) fun k => ?_
          simp only [PSpecPaths.virgationlaw11_allowed.f]
          rw [if_neg h1, if_pos h2, if_pos (by omega), if_pos h6, if_pos hq.1, if_pos hq.2, if_pos h6, if_pos (by omega), if_neg h7]
      · rw [if_neg h6]
        refine ev_next (hgo h5 q hq) fun k => ?_
        simp only [PSpecPaths.virgationlaw11_allowed.f]
        rw [if_neg h1, if_pos h2, if_pos (by omega), if_neg h6]
end Go.Proofs.YtmphigeefppfpaaDoor.H
