/- What autoRound_calls, handed_and_shaped, own, laidOut, laid7, mx_of_shaped, tabD_of_laid, arg_auto, arg_tree needs, out of my texts, by a program (slim.py). -/
import Derived.Test.YtbmcigakiibncaaGreatDoorSR0
namespace Go.Proofs.YtbmcigakiibncaaGreatDoor.H
open Go.RowKit Go.Proofs.YtbmcigakiibncaaGreatDoorW.PrintWords Go.Proofs.YtbmcigakiibncaaGreatDoorW.PrintLast Go.Proofs.YtbmcigakiibncaaGreatDoorW.PrintMore
theorem rd_mem {xs : List Int} {k : Nat} (h : k < xs.length) : rd xs (k : Int) ∈ xs := by
  have : rd xs (k : Int) = xs[k] := by simp [rd, List.getD_eq_getElem?_getD, List.getElem?_eq_getElem h]
  rw [this]; exact List.getElem_mem h
theorem blk_at2 (w : World) (o o' : Obj) : ((w.alloc o).alloc o').heap[w.heap.size + 1]? = some o' := by
  have h := blk_new (w.alloc o) o'
  rwa [show (w.alloc o).heap.size = w.heap.size + 1 from by simp] at h
theorem run_mkfun (fn : Fn) (first cap : Array Value) (w : World) : (Instr.makeFunc fn first cap).run Tryz.prog w = .ok (.func fn first cap) w := rfl
end Go.Proofs.YtbmcigakiibncaaGreatDoor.H
namespace Go.Proofs.YtbmcigakiibncaaGreatDoor.H
open Go.RowKit Go.Proofs.YtbmcigakiibncaaGreatDoorW.PrintWords Go.Proofs.YtbmcigakiibncaaGreatDoorW.PrintLast Go.Proofs.YtbmcigakiibncaaGreatDoorW.PrintMore
open Q
theorem wrap_succ {i : Int} (h0 : 0 ≤ i) (h1 : i < 9223372036854775807) : wrap64 (i + 1) = i + 1 := by
  unfold wrap64; omega
theorem all_drop {α : Type} {p : α → Bool} {xs : List α} {j : Nat} (h : j < xs.length) : (xs.drop j).all p = (p xs[j] && (xs.drop (j + 1)).all p) := by
  rw [List.drop_eq_getElem_cons h, List.all_cons]
theorem rd_at {xs : List Int} {j : Nat} (h : j < xs.length) : rd xs (j : Int) = xs[j] := by
  simp [rd, List.getD_eq_getElem?_getD, List.getElem?_eq_getElem h]
theorem ev_next {α : Type} {g f : Nat → Option α} {r : α} (k : Ev f r) (h : ∀ k, g (k + 1) = f k) : Ev g r := Ev.step h k
theorem ev_end {α : Type} {g : Nat → Option α} {r : α} (h : ∀ k, g (k + 1) = some r) : Ev g r := Ev.step (f := fun _ => some r) h (Ev.now r)
end Go.Proofs.YtbmcigakiibncaaGreatDoor.H
namespace Go.Proofs.YtbmcigakiibncaaGreatDoor.H
open Go.RowKit Go.Proofs.YtbmcigakiibncaaGreatDoorW.PrintWords Go.Proofs.YtbmcigakiibncaaGreatDoorW.PrintLast Go.Proofs.YtbmcigakiibncaaGreatDoorW.PrintMore
set_option linter.unusedVariables false
theorem grown_setCell (W : World) (p : Addr) (u : Value) : W.grownBy (W.setCell p u) (some p.block) :=
  ⟨rfl, rfl, rfl, by simp [World.setCell], fun i _ hne => Below.heap_setCell W p u i (fun e => hne (by rw [e]))⟩
end Go.Proofs.YtbmcigakiibncaaGreatDoor.H
namespace Go.Proofs.YtbmcigakiibncaaGreatDoor.H
open Go.RowKit Go.Proofs.YtbmcigakiibncaaGreatDoorW.PrintWords Go.Proofs.YtbmcigakiibncaaGreatDoorW.PrintLast Go.Proofs.YtbmcigakiibncaaGreatDoorW.PrintMore
set_option linter.unusedVariables false
def ranksB (l : List Int) : Bool := (l.all fun r => decide (0 ≤ r) && decide (r ≤ 4)) && decide ((l.length : Int) ≤ 24)
theorem rk_l0 (l : List Int) (hm : l.length ≤ 9223372036854775807) (d : Nat) : ∀ j : Nat, l.length - j = d → j ≤ l.length →
    Ev (fun k => Q.tree_Ranks.l0 k l l (l.length : Int) (j : Int)) (((l.drop j).all fun r => decide (0 ≤ r) && decide (r ≤ 4)) && decide ((l.length : Int) ≤ 24)) := by
  induction d with
  | zero =>
    intro j hd hj
    refine ev_end fun k => ?_
    simp only [Q.tree_Ranks.l0]
    rw [if_neg (by omega), List.drop_eq_nil_of_le (by omega)]
    rfl
  | succ d ih =>
    intro j hd hj
    have hlt : j < l.length := by omega
    rw [all_drop hlt]
    have e : rd l (j : Int) = l[j] := rd_at hlt
    by_cases h1 : l[j] < 0
    · rw [decide_eq_false (by omega : ¬ 0 ≤ l[j])]
      refine ev_end fun k => ?_
      simp only [Q.tree_Ranks.l0]
      rw [if_pos (by omega), if_pos (by omega), if_pos (by omega), e, if_pos h1]; simp
    · by_cases h2 : l[j] > 4
      · rw [decide_eq_false (by omega : ¬ l[j] ≤ 4)]
        refine ev_end fun k => ?_
        simp only [Q.tree_Ranks.l0]
        rw [if_pos (by omega), if_pos (by omega), if_pos (by omega), e, if_neg h1, if_pos h2]; simp
      · rw [decide_eq_true (by omega : 0 ≤ l[j]), decide_eq_true (by omega : l[j] ≤ 4), Bool.true_and, Bool.true_and]
        refine ev_next (ih (j + 1) (by omega) (by omega)) fun k => ?_
        simp only [Q.tree_Ranks.l0]
        rw [if_pos (by omega), if_pos (by omega), if_pos (by omega), e, if_neg h1, if_neg h2, wrap_succ (by omega) (by omega)]
        rfl
theorem ranks_ev (l : List Int) (hm : l.length ≤ 9223372036854775807) : Ev (fun k => Q.tree_Ranks.f k l) (ranksB l) := rk_l0 l hm _ 0 rfl (Nat.zero_le _)
theorem ranks_calls (A : Option Addr) (c : Nat) (l : List Int) (w : World) (hr : Kd.C (Kd.int .i64) w A l.length l) (hc : l.length ≤ c) : Calls Tryz.prog 72 #[.slice A l.length c] w fun e w' => e = .returned (.bool (ranksB l)) ∧ Below w.heap.size w w' := by
  obtain ⟨k, hk⟩ := (ranks_ev l hr.2.1).rounds
  exact (Q.tree_Ranks.calls k A c l _ w hr hc hk).mono fun e w' h => ⟨h.1, h.2.below⟩
end Go.Proofs.YtbmcigakiibncaaGreatDoor.H
namespace Go.Proofs.YtbmcigakiibncaaGreatDoor.H
open Go.RowKit Go.Proofs.YtbmcigakiibncaaGreatDoorW.PrintWords Go.Proofs.YtbmcigakiibncaaGreatDoorW.PrintLast Go.Proofs.YtbmcigakiibncaaGreatDoorW.PrintMore
set_option linter.unusedVariables false
abbrev kA1 : Kd (List Q.S83) := Kd.slice 83 Q.k83
abbrev kA2 : Kd (List (List Q.S83)) := Kd.slice 69 kA1
abbrev kA3 : Kd (List (List (List Q.S83))) := Kd.slice 66 kA2
end Go.Proofs.YtbmcigakiibncaaGreatDoor.H
namespace Go.Proofs.YtbmcigakiibncaaGreatDoor.H
open Go.RowKit Go.Proofs.YtbmcigakiibncaaGreatDoorW.PrintWords Go.Proofs.YtbmcigakiibncaaGreatDoorW.PrintLast Go.Proofs.YtbmcigakiibncaaGreatDoorW.PrintMore
open Go.Proofs.YtbmcigakiibncaaGreatDoor.Q (S28 k28 rd_T28 z28)
set_option linter.unusedVariables false
mutual
def nodes : S28 → Nat
  | ⟨_, l⟩ => nodesL l + 1
def nodesL : List S28 → Nat
  | [] => 0
  | t :: r => nodes t + nodesL r
end
mutual
def depth : S28 → Nat
  | ⟨_, l⟩ => depthL l + 1
def depthL : List S28 → Nat
  | [] => 0
  | t :: r => max (depth t) (depthL r)
end
mutual
def overB (rk : List Int) : S28 → Bool
  | ⟨s, l⟩ => (decide (s = -1) && decide (l.length = 0)) || (decide (0 ≤ s) && decide (s < (rk.length : Int)) && decide ((l.length : Int) = rd rk s) && overL rk l)
def overL (rk : List Int) : List S28 → Bool
  | [] => true
  | t :: r => overB rk t && overL rk r
end
theorem nodes_pos (t : S28) : 1 ≤ nodes t := by
  cases t
  rw [nodes]
  omega
theorem nodes_mem {l : List S28} {t : S28} (h : t ∈ l) : nodes t ≤ nodesL l := by
  induction l with
  | nil => cases h
  | cons a r ih =>
    rw [nodesL]
    rcases List.mem_cons.1 h with rfl | h
    · omega
    · have := ih h; omega
theorem depth_le_aux (n : Nat) : ∀ t : S28, nodes t ≤ n → depth t ≤ nodes t := by
  induction n with
  | zero => intro t h; have := nodes_pos t; omega
  | succ n ih =>
    intro t h
    obtain ⟨s, l⟩ := t
    rw [nodes] at h ⊢
    rw [depth]
    have : ∀ l : List S28, nodesL l ≤ n → depthL l ≤ nodesL l := by
      intro l
      induction l with
      | nil => intro _; simp [depthL]
      | cons a r ihr =>
        intro h
        rw [nodesL] at h ⊢
        rw [depthL]
        have h1 := ih a (by omega)
        have h2 := ihr (by omega)
        omega
    have := this l (by omega)
    omega
theorem depth_le (t : S28) : depth t ≤ nodes t := depth_le_aux _ t (Nat.le_refl _)
theorem rdT_at {l : List S28} {j : Nat} (h : j < l.length) : rd_T28 l (j : Int) = l[j] := by simp [rd_T28, List.getD_eq_getElem?_getD, List.getElem?_eq_getElem h]
theorem dropT {l : List S28} {j : Nat} (h : j < l.length) : l.drop j = l[j] :: l.drop (j + 1) := (List.drop_eq_getElem_cons h)
theorem wr_id {x : Int} (h1 : -9223372036854775808 ≤ x) (h2 : x ≤ 9223372036854775807) : wrap64 x = x := by unfold wrap64; omega
theorem lens_le {l : List S28} : l.length ≤ nodesL l := by
  induction l with
  | nil => simp
  | cons a r ih => rw [nodesL, List.length_cons]; have := nodes_pos a; omega
theorem tover_ev (rk : List Int) (N : Nat) : ∀ t : S28, nodes t ≤ N → N ≤ 20000 → Ev (fun k => Q.tree_over.f k rk t.f0 t.f1) (overB rk t) := by
  induction N with
  | zero => intro t h; have := nodes_pos t; omega
  | succ N ih =>
    intro t h hN
    obtain ⟨s, l⟩ := t
    rw [nodes] at h
    have hll := lens_le (l := l)
    have loop : ∀ d j : Nat, l.length - j = d → j ≤ l.length → Ev (fun k => Q.tree_over.l0 k rk l (l.length : Int) (j : Int)) (overL rk (l.drop j)) := by
      intro d
      induction d with
      | zero =>
        intro j hd hj
        refine ev_end fun k => ?_
        simp only [Q.tree_over.l0]
        rw [if_neg (by omega), List.drop_eq_nil_of_le (by omega), overL]
      | succ d ihd =>
        intro j hd hj
        have hlt : j < l.length := by omega
        rw [dropT hlt, overL]
        have e1 := ih l[j] (by have := nodes_mem (List.getElem_mem hlt); omega) (by omega)
        have e2 := ihd (j + 1) (by omega) (by omega)
        rw [show ((j + 1 : Nat) : Int) = wrap64 ((j : Int) + 1) from (wrap_succ (i := (j : Int)) (by omega) (by omega)).symm] at e2
        refine ev_next (Ev.bind (f := fun k t => if t = true then Q.tree_over.l0 k rk l (l.length : Int) (wrap64 ((j : Int) + 1)) else some false) e1 ?_) fun k => ?_
        · cases overB rk l[j] with
          | true => simpa using e2
          | false => simpa using Ev.now false
        · simp only [Q.tree_over.l0]
          rw [if_pos (by omega), if_pos (by omega), if_pos (by omega), rdT_at hlt]
    have hgo : Ev (fun k => Q.tree_over.j0 k rk false s l) (overL rk l) := by
      have e := loop l.length 0 (by omega) (by omega)
      rw [List.drop_zero] at e
      exact ev_next e fun k => by simp [Q.tree_over.j0]
    have hno : Ev (fun k => Q.tree_over.j0 k rk true s l) false := ev_end fun k => by simp [Q.tree_over.j0]
    rw [overB]
    by_cases h3 : s = -1
    · subst h3
      refine ev_end fun k => ?_
      simp only [Q.tree_over.f]
      rw [if_pos trivial]
      by_cases h4 : l.length = 0
      · simp [h4]
      · simp [h4]
    by_cases h1 : s < 0
    · rw [decide_eq_false h3, decide_eq_false (by omega : ¬ 0 ≤ s)]
      refine ev_next hno fun k => ?_
      simp only [Q.tree_over.f]
      rw [if_neg h3, if_pos h1]
    by_cases h2 : s ≥ (rk.length : Int)
    · rw [decide_eq_false (by omega : ¬ s < (rk.length : Int)), decide_eq_false h3]
      simp only [Bool.false_and, Bool.and_false, Bool.or_false]
      refine ev_next hno fun k => ?_
      simp only [Q.tree_over.f]
      rw [if_neg h3, if_neg h1, if_pos h2]
    · rw [decide_eq_false h3, decide_eq_true (by omega : 0 ≤ s), decide_eq_true (by omega : s < (rk.length : Int))]
      by_cases h5 : (l.length : Int) = rd rk s
      · rw [decide_eq_true h5]
        simp only [Bool.false_and, Bool.false_or, Bool.true_and]
        refine ev_next hgo fun k => ?_
        simp only [Q.tree_over.f]
        rw [if_neg h3, if_neg h1, if_neg h2, if_pos (by omega), if_pos (by omega), h5, bne_self_eq_false]
      · rw [decide_eq_false h5]
        simp only [Bool.false_and, Bool.false_or, Bool.and_false]
        refine ev_next hno fun k => ?_
        simp only [Q.tree_over.f]
        rw [if_neg h3, if_neg h1, if_neg h2, if_pos (by omega), if_pos (by omega), show ((l.length : Int) != rd rk s) = true from bne_iff_ne.2 h5]
def treeOk (rk : List Int) (t : S28) : Bool := decide (nodes t ≤ 20000) && decide (depth t ≤ 200) && overB rk t
end Go.Proofs.YtbmcigakiibncaaGreatDoor.H
namespace Go.Proofs.YtbmcigakiibncaaGreatDoor.H
open Go.RowKit Go.Proofs.YtbmcigakiibncaaGreatDoorW.PrintWords Go.Proofs.YtbmcigakiibncaaGreatDoorW.PrintLast Go.Proofs.YtbmcigakiibncaaGreatDoorW.PrintMore
open Go.Proofs.YtbmcigakiibncaaGreatDoor.Q (S28 k28 rd_T28 z28 at_T28)
attribute [local go_sem] max2_int min2_int max_two min_two max_three min_three max_four min_four
set_option linter.unusedVariables false
theorem gtrans {W W1 W2 : World} {row : Option Nat} (h : W.grownBy W1 row) (h2 : W1.grownBy W2 row) : W.grownBy W2 row := ⟨h2.os.trans h.os, h2.tape.trans h.tape, h2.output.trans h.output, Nat.le_trans h.size h2.size, fun i hi hne => (h2.block i (Nat.lt_of_lt_of_le hi h.size) hne).trans (h.block i hi hne)⟩
theorem depthL_snoc (a : List S28) (x : S28) : depthL (a ++ [x]) = max (depthL a) (depth x) := by
  induction a with
  | nil => simp [depthL]
  | cons y r ih => rw [List.cons_append, depthL, depthL, ih]; omega
theorem nodesL_snoc (a : List S28) (x : S28) : nodesL (a ++ [x]) = nodesL a + nodes x := by
  induction a with
  | nil => simp [nodesL]
  | cons y r ih => rw [List.cons_append, nodesL, nodesL, ih]; omega
theorem takeT {l : List S28} {j : Nat} (h : j < l.length) : l.take (j + 1) = l.take j ++ [l[j]] := by rw [List.take_add_one, List.getElem?_eq_getElem h]; rfl
theorem nodesL_take (l : List S28) (j : Nat) : nodesL (l.take j) ≤ nodesL l := by
  induction l generalizing j with
  | nil => simp
  | cons a r ih =>
    cases j with
    | zero => simp [nodesL]
    | succ j => rw [List.take_succ_cons, nodesL, nodesL]; have := ih j; omega
theorem depthL_le (l : List S28) : depthL l ≤ nodesL l := by
  induction l with
  | nil => simp [depthL]
  | cons a r ih => rw [depthL, nodesL]; have := depth_le a; omega
end Go.Proofs.YtbmcigakiibncaaGreatDoor.H
namespace Go.Proofs.YtbmcigakiibncaaGreatDoor.H
open Go.RowKit Go.Proofs.YtbmcigakiibncaaGreatDoorW.PrintWords Go.Proofs.YtbmcigakiibncaaGreatDoorW.PrintLast Go.Proofs.YtbmcigakiibncaaGreatDoorW.PrintMore
open Go.Proofs.YtbmcigakiibncaaGreatDoor.Q (S28 k28 rd_T28 z28 at_T28)
set_option linter.unusedVariables false
theorem below_of_grown {w W W1 : World} {p : Nat} (h : Below w.heap.size w W) (hp : w.heap.size ≤ p) (hg : W.grownBy W1 (some p)) : Below w.heap.size w W1 := pw_below_grown h (some p) h.size hg (fun k hk => by cases hk; exact hp)
end Go.Proofs.YtbmcigakiibncaaGreatDoor.H
namespace Go.Proofs.YtbmcigakiibncaaGreatDoor.H
open Go.RowKit Go.Proofs.YtbmcigakiibncaaGreatDoorW.PrintWords Go.Proofs.YtbmcigakiibncaaGreatDoorW.PrintLast Go.Proofs.YtbmcigakiibncaaGreatDoorW.PrintMore
set_option linter.unusedVariables false
def Tab (w : World) : Prop := w.cell? ⟨1, 0, none⟩ = some (.int .u8 0) ∧ w.cell? ⟨1, 1, none⟩ = some (.int .u8 1) ∧ w.cell? ⟨1, 3, none⟩ = some (.int .u8 2) ∧ w.cell? ⟨1, 7, none⟩ = some (.int .u8 3) ∧ w.cell? ⟨1, 15, none⟩ = some (.int .u8 4) ∧ w.cell? ⟨1, 31, none⟩ = some (.int .u8 5)
theorem Tab.below {w w1 : World} (h : Tab w) (hb : Below w.heap.size w w1) : Tab w1 := by
  obtain ⟨h0, h1, h2, h3, h4, h5⟩ := h
  exact ⟨pw_cell_below hb h0, pw_cell_below hb h1, pw_cell_below hb h2, pw_cell_below hb h3, pw_cell_below hb h4, pw_cell_below hb h5⟩
def low (x : Nat) : Nat := if x % 2 = 1 then 0 else if x % 4 = 2 then 1 else if x % 8 = 4 then 2 else if x % 16 = 8 then 3 else if x % 32 = 16 then 4 else 5
def lowAt (x : Nat) : Nat := if x % 2 = 1 then 0 else if x % 4 = 2 then 1 else if x % 8 = 4 then 3 else if x % 16 = 8 then 7 else if x % 32 = 16 then 15 else 31
def tzAt (x : Int) : Int := IntKind.u64.wrap (bits BinOp.and IntKind.u64 x (IntKind.u64.wrap (-x)) * 285870213051353865) / 288230376151711744
theorem tzAt_all : ((List.range 64).all fun x => x == 0 || tzAt (x : Int) == (lowAt x : Int)) = true := by kernel_rfl
theorem tzAt_eq {x : Nat} (h0 : x ≠ 0) (h1 : x < 64) : tzAt (x : Int) = (lowAt x : Int) := by
  have h := List.all_eq_true.1 tzAt_all x (List.mem_range.2 h1)
  simpa [h0] using h
theorem Tab.at {w : World} (h : Tab w) (x : Nat) : w.cell? ⟨1, lowAt x, none⟩ = some (.int .u8 (low x : Int)) := by
  obtain ⟨h0, h1, h2, h3, h4, h5⟩ := h
  unfold lowAt low
  by_cases a0 : x % 2 = 1
  · rw [if_pos a0, if_pos a0]; exact h0
  rw [if_neg a0, if_neg a0]
  by_cases a1 : x % 4 = 2
  · rw [if_pos a1, if_pos a1]; exact h1
  rw [if_neg a1, if_neg a1]
  by_cases a2 : x % 8 = 4
  · rw [if_pos a2, if_pos a2]; exact h2
  rw [if_neg a2, if_neg a2]
  by_cases a3 : x % 16 = 8
  · rw [if_pos a3, if_pos a3]; exact h3
  rw [if_neg a3, if_neg a3]
  by_cases a4 : x % 32 = 16
  · rw [if_pos a4, if_pos a4]; exact h4
  rw [if_neg a4, if_neg a4]; exact h5
theorem low_le (x : Nat) : low x ≤ 5 := by unfold low; repeat' split
                                           all_goals omega
theorem tz64_calls (x : Nat) (h0 : x ≠ 0) (h1 : x < 64) (w : World) (h : Tab w) : Calls Tryz.prog 112 #[.int .u64 (x : Int)] w fun E w' => E = .returned (.int .i64 (low x : Int)) ∧ w' = w := by
  have e := tzAt_eq h0 h1
  have hc := h.at x
  have hl := low_le x
  rw [show lowAt x = (tzAt (x : Int)).toNat by rw [e]; rfl] at hc
  have hb : 0 ≤ tzAt (x : Int) ∧ tzAt (x : Int) < 64 := by rw [e]; unfold lowAt; repeat' split
                                                           all_goals omega
  have hx : ¬ (x : Int) = 0 := by omega
  unfold tzAt at hc hb
  obtain ⟨hb0, hb1⟩ := hb
  clear e h h0
  go_enter Tryz.func112, Tryz.ntmps112
  go_wp2
  go_ret
  exact ⟨rfl, rfl⟩
theorem tz_calls (x : Nat) (h0 : x ≠ 0) (h1 : x < 64) (w : World) (h : Tab w) : Calls Tryz.prog 90 #[.int .u64 (x : Int)] w fun E w' => E = .returned (.int .i64 (low x : Int)) ∧ w' = w := by
  have H := Aside0.mk (tz64_calls x h0 h1 w h)
  clear h h0 h1
  go_enter Tryz.func90, Tryz.ntmps90
  go_wp2_with fail
  refine (H.out).mono ?_
  rintro E w2 ⟨rfl, rfl⟩
  go_wp2
  go_ret
  exact ⟨rfl, rfl⟩
end Go.Proofs.YtbmcigakiibncaaGreatDoor.H
namespace Go.Proofs.YtbmcigakiibncaaGreatDoor.H
open Go.RowKit Go.Proofs.YtbmcigakiibncaaGreatDoorW.PrintWords Go.Proofs.YtbmcigakiibncaaGreatDoorW.PrintLast Go.Proofs.YtbmcigakiibncaaGreatDoorW.PrintMore
set_option linter.unusedVariables false
def bitsL (m : Nat) : List Int := ((List.range 6).filter fun i => m.testBit i).map fun (i : Nat) => (i : Int)
theorem bits_all : ((List.range 64).all fun x => x == 0 || (bitsL x == (low x : Int) :: bitsL (x &&& (x - 1)) && bits BinOp.and IntKind.u64 (x : Int) ((x : Int) - 1) == ((x &&& (x - 1) : Nat) : Int) && decide (x &&& (x - 1) < x))) = true := by kernel_rfl
theorem bits_step {x : Nat} (h0 : x ≠ 0) (h1 : x < 64) : bitsL x = (low x : Int) :: bitsL (x &&& (x - 1)) ∧ bits BinOp.and IntKind.u64 (x : Int) ((x : Int) - 1) = ((x &&& (x - 1) : Nat) : Int) ∧ x &&& (x - 1) < x := by
  have h := List.all_eq_true.1 bits_all x (List.mem_range.2 h1)
  simp only [Bool.or_eq_true, beq_iff_eq, Bool.and_eq_true, decide_eq_true_eq] at h
  have := h.resolve_left h0
  exact ⟨this.1.1, this.1.2, this.2⟩
theorem bitsL_len (m : Nat) : (bitsL m).length ≤ 6 := by
  unfold bitsL
  rw [List.length_map]
  exact Nat.le_trans (List.length_filter_le _ _) (by simp)
theorem u64_id {x : Int} (h0 : 0 ≤ x) (h1 : x < 18446744073709551616) : IntKind.u64.wrap x = x := by simp [IntKind.wrap, IntKind.bits, IntKind.signed]; omega
def ListEnd (m : Nat) (w : World) (E : Ending) (w' : World) : Prop := ∃ (A : Option Addr) (c : Nat), E = .returned (.slice A (bitsL m).length c) ∧ (bitsL m).length ≤ c ∧ Kd.C (Kd.int .i64) w' A (bitsL m).length (bitsL m) ∧ Below w.heap.size w w'
set_option maxHeartbeats 2000000 in
theorem list_calls (m : Nat) (hm : m < 64) (w : World) (h : Tab w) : Calls Tryz.prog 41 #[.int .i64 (m : Int)] w (ListEnd m w) := by
  have HT := Aside0.mk h
  have HM := Aside0.mk hm
  clear h hm
  go_enter Tryz.func41, Tryz.ntmps41
  go_upto_region 3 with (fail)
  rw [u64_id (by omega) (by have := HM.out; omega)]
  go_loopg [3, 4] m (fun gg v3 v4 wi => ∃ (ys : List Int) (x : Nat) (So : Nat → Prop), x ≤ gg ∧ v4 = .int .u64 x ∧ x < 64 ∧ Aside0 (ys ++ bitsL x = bitsL m) ∧ Aside0 (Kd.R (Kd.int .i64) 3 wi w.heap.size So v3 ys) ∧ Aside0 (Below w.heap.size w wi))
  case atStart => exact ⟨[], m, fun _ => False, by omega, rfl, HM.out, ⟨by rw [List.nil_append]⟩, ⟨Kd.R_nil _ _ _ _ _⟩, ⟨Below.refl _ _⟩⟩
  case round =>
    obtain ⟨ys, x, So, hgg, rfl, hx, HE, HR, HB⟩ := hrel
    obtain ⟨A, c, rfl⟩ := Kd.R_slice HR.out
    by_cases h0 : x = 0
    · subst h0
      have hE := HE.out
      rw [show bitsL 0 = [] by rfl, List.append_nil] at hE
      subst hE
      have hr := Kd.R_reads' HR.out
      go_wp2
      go_ret
      exact ⟨A, c, rfl, hr.2.1, hr.2.2, (HB.out)⟩
    · have h0z : ¬ (x : Int) = 0 := by omega
      obtain ⟨e1, e2, e3⟩ := bits_step h0 hx
      have HE1 := Aside0.mk (show (ys ++ [(low x : Int)]) ++ bitsL (x &&& (x - 1)) = bitsL m by rw [List.append_assoc, List.singleton_append, ← e1]; exact HE.out)
      have HL1 := Aside0.mk (show ys.length ≤ 6 by have h1 := congrArg List.length HE.out; rw [List.length_append] at h1; have := bitsL_len m; omega)
      have HZ := Aside0.mk (tz_calls x h0 hx wr ((HT.out).below HB.out))
      have HE2 := Aside0.mk e2
      clear e1 e2 HE h0
      go_wp2_with fail
      refine (HZ.out).mono ?_
      rintro E w2 ⟨rfl, rfl⟩
      go_wp2_with ((with_reducible refine gate_builtin (b := .append) (xs := #[.tmp 13, .tmp 16]) rfl ?_); at_builtin; refine Kd.R_append (Kd.int .i64) (w0 := w) w.heap.size rfl (.tmp 13) (.tmp 16) 22 3 (.int .i64 0) 8 rfl Tryz.underlying22 Q.info3 rfl (by decide) (by omega) (.slice A ys.length c) ys (low x : Int) [.int .i64 (low x : Int)] (fun k => So k ∨ w2.heap.size ≤ k) (fun _ => False) rfl rfl rfl (fun _ hk => hk.elim) (fun k hk => .inr hk) (Kd.R_mono HR.out (fun _ hk => .inl hk)) HB.out (HB.out).size (by have := HL1.out; omega) ?_; intro v5 w5 ho5 hb5 hg5 hat5; have HR5 := Aside0.mk ho5; have HB5 := Aside0.mk hb5; clear ho5 hb5 hg5 hat5)
      go_roundg (x &&& (x - 1))
      case measure => omega
      case rel => exact ⟨ys ++ [(low x : Int)], x &&& (x - 1), _, Nat.le_refl _, by rw [HE2.out], by omega, HE1, HR5, HB5⟩
end Go.Proofs.YtbmcigakiibncaaGreatDoor.H
namespace Go.Proofs.YtbmcigakiibncaaGreatDoor.H
open Go.RowKit Go.Proofs.YtbmcigakiibncaaGreatDoorW.PrintWords Go.Proofs.YtbmcigakiibncaaGreatDoorW.PrintLast Go.Proofs.YtbmcigakiibncaaGreatDoorW.PrintMore
set_option linter.unusedVariables false
abbrev Nd := Q.S83
def zN : Nd := ⟨0, 0⟩
theorem at_need {w : World} {A : Option Addr} {n : Nat} {xs : List Nd} (h : Kd.C Q.k83 w A n xs) (i : Nat) (hi : i < n) :
    ∃ ad, A = some ad ∧ w.cell? (ad.add (i * 2)) = some (.int .i64 (xs.getD i zN).f0) ∧ w.cell? ⟨(ad.add (i * 2)).block, (ad.add (i * 2)).off + 1, none⟩ = some (.int .i64 (xs.getD i zN).f1) := by
  obtain ⟨ad, c, e, _, hK, hc0⟩ := Kd.C_get h zN (i : Int) (by omega) (by omega)
  have hc : ∀ j u, c[j]? = some u → w.cell? (ad.add (i * 2 + j)) = some u := fun j u hj => by have := hc0 j u hj; rwa [Int.toNat_natCast] at this
  obtain ⟨_, _, rfl, rfl, rfl⟩ := hK
  refine ⟨ad, e, by have := hc 0 _ rfl; rwa [Nat.add_zero] at this, by rw [← add_field _ _ 1 (by omega)]; exact hc 1 _ rfl⟩
theorem at_sl {α : Type} {d : Kd α} {e : Nat} {w : World} {A : Option Addr} {n : Nat} {xs : List (List α)} (h : Kd.C (Kd.slice e d) w A n xs) (i : Nat) (hi : i < n) :
    ∃ ad A0 c0, A = some ad ∧ w.cell? (ad.add i) = some (.slice A0 (xs.getD i []).length c0) ∧ (xs.getD i []).length ≤ c0 ∧ d.C w A0 (xs.getD i []).length (xs.getD i []) := by
  obtain ⟨ad, c, e, _, hK, hc0⟩ := Kd.C_get h [] (i : Int) (by omega) (by omega)
  have hc : ∀ j u, c[j]? = some u → w.cell? (ad.add (i * 1 + j)) = some u := fun j u hj => by have := hc0 j u hj; rwa [Int.toNat_natCast] at this
  obtain ⟨A0, c0, rfl, l0, g0⟩ := hK
  exact ⟨ad, A0, c0, e, by have hq := hc 0 _ rfl; rwa [Nat.mul_one, Nat.add_zero] at hq, l0, g0⟩
def PredN (g : Nat) (lb : Array Value) (dom : Nd → Prop) (p : Nd → Bool) (w : World) : Prop :=
  ∀ (W : World) (x : Nd), Below w.heap.size w W → dom x → Calls Tryz.prog g (#[.agg #[.int .i64 x.f0, .int .i64 x.f1]] ++ lb) W fun e w' => e = .returned (.bool (p x)) ∧ Below W.heap.size W w'
theorem anyN_at {p : Nd → Bool} {xs : List Nd} {k : Nat} (h : k < xs.length) (hp : p (xs.getD k zN) = true) : xs.any p = true := by
  refine List.any_eq_true.2 ⟨xs[k], List.getElem_mem h, ?_⟩
  rwa [List.getD_eq_getElem?_getD, List.getElem?_eq_getElem h] at hp
theorem anyN_none {p : Nd → Bool} {xs : List Nd} (h : ∀ j : Nat, j < xs.length → p (xs.getD j zN) = false) : xs.any p = false := by
  refine List.any_eq_false.2 fun x hx => ?_
  obtain ⟨j, hj, rfl⟩ := List.getElem_of_mem hx
  have h2 := h j hj
  rw [List.getD_eq_getElem?_getD, List.getElem?_eq_getElem hj] at h2
  simpa using h2
theorem getD_memN {xs : List Nd} {k : Nat} (h : k < xs.length) : xs.getD k zN ∈ xs := by
  rw [List.getD_eq_getElem?_getD, List.getElem?_eq_getElem h]; exact List.getElem_mem h
set_option maxHeartbeats 2000000 in
theorem indexN_calls (A : Option Addr) (c : Nat) (xs : List Nd) (g : Nat) (lb : Array Value) (dom : Nd → Prop) (p : Nd → Bool) (w : World)
    (hr : Kd.C Q.k83 w A xs.length xs) (hd : ∀ x ∈ xs, dom x) (hp : PredN g lb dom p w)
    (eg : ∀ args w, (callFunc g args).run Tryz.prog w = .ok (.enter g args) w) :
    Calls Tryz.prog 108 #[.slice A xs.length c, .func (.func g) #[] lb] w fun e w' => ∃ r : Int, e = .returned (.int .i64 r) ∧ decide (r ≥ 0) = xs.any p ∧ Below w.heap.size w w' := by
  have HR := Aside0.mk hr
  have HP := Aside0.mk hp
  have HD := Aside0.mk hd
  have hm := hr.2.1
  clear hr hp hd
  go_enter Tryz.func108, Tryz.ntmps108
  go_wp2
  go_loopg [5, 8] xs.length (fun gg _ s8 wr => ∃ kk : Nat, kk ≤ xs.length ∧ xs.length - kk ≤ gg ∧ s8 = .int .i64 kk ∧ Aside0 (Below w.heap.size w wr) ∧ Aside0 (∀ j : Nat, j < kk → p (xs.getD j zN) = false))
  case atStart => exact ⟨0, Nat.zero_le _, by omega, rfl, ⟨Below.refl _ w⟩, ⟨fun j hj => absurd hj (Nat.not_lt_zero _)⟩⟩
  case round =>
    obtain ⟨kk, hkk, hg, rfl, BW, HA⟩ := hrel
    by_cases hlt : kk < xs.length
    · have hltz : (kk : Int) < (xs.length : Int) := by omega
      obtain ⟨ad, e0, hx0, hx1⟩ := at_need (HR.out) kk hlt
      cases e0
      replace hx0 := pw_cell_below BW.out hx0
      replace hx1 := pw_cell_below BW.out hx1
      have hcall := HP.out wr (xs.getD kk zN) BW.out (HD.out _ (getD_memN hlt))
      generalize hy : xs.getD kk zN = y at hx0 hx1 hcall
      have HY := Aside0.mk hy
      clear hy
      cases hq : p y with
      | true =>
        rw [hq] at hcall
        have HQ := Aside0.mk hq
        clear hq
        go_wp2_with fail
        refine hcall.mono ?_
        rintro e w' ⟨rfl, hb'⟩
        have HB' := Aside0.mk hb'
        clear hb' hcall
        go_wp2
        go_ret
        refine ⟨(kk : Int), rfl, ?_, below_then BW.out (BW.out).size HB'.out⟩
        rw [anyN_at (k := kk) (by assumption) (by rw [HY.out]; exact HQ.out)]
        simp
      | false =>
        rw [hq] at hcall
        have HQ := Aside0.mk hq
        clear hq
        go_wp2_with fail
        refine hcall.mono ?_
        rintro e w' ⟨rfl, hb'⟩
        have HB' := Aside0.mk hb'
        clear hb' hcall
        go_wp2
        go_roundg (xs.length - (kk + 1))
        case measure => omega
        case rel =>
          refine ⟨kk + 1, by omega, by omega, by go_num, ⟨below_then BW.out (BW.out).size HB'.out⟩, ⟨fun j hj => ?_⟩⟩
          by_cases e : j = kk
          · subst e
            rw [HY.out]; exact HQ.out
          · exact HA.out j (by omega)
    · have hltz : ¬ (kk : Int) < (xs.length : Int) := by omega
      go_wp2
      go_ret
      refine ⟨-1, rfl, ?_, BW.out⟩
      rw [anyN_none (fun j hj => HA.out j (by omega))]
      rfl
theorem containsN_calls (A : Option Addr) (c : Nat) (xs : List Nd) (g : Nat) (lb : Array Value) (dom : Nd → Prop) (p : Nd → Bool) (w : World)
    (hr : Kd.C Q.k83 w A xs.length xs) (hd : ∀ x ∈ xs, dom x) (hp : PredN g lb dom p w)
    (eg : ∀ args w, (callFunc g args).run Tryz.prog w = .ok (.enter g args) w) :
    Calls Tryz.prog 74 #[.slice A xs.length c, .func (.func g) #[] lb] w fun e w' => e = .returned (.bool (xs.any p)) ∧ Below w.heap.size w w' := by
  have H := (indexN_calls A c xs g lb dom p w hr hd hp eg)
  clear hr hd hp
  go_enter Tryz.func74, Tryz.ntmps74
  go_wp2_with fail
  refine H.mono ?_
  rintro e w' ⟨r, rfl, hq, hb⟩
  have HQ := Aside0.mk hq
  have HB := Aside0.mk hb
  clear hq hb H
  go_wp2
  go_ret
  exact ⟨by rw [← HQ.out]; rfl, HB.out⟩
end Go.Proofs.YtbmcigakiibncaaGreatDoor.H
namespace Go.Proofs.YtbmcigakiibncaaGreatDoor.H
open Go.RowKit Go.Proofs.YtbmcigakiibncaaGreatDoorW.PrintWords Go.Proofs.YtbmcigakiibncaaGreatDoorW.PrintLast Go.Proofs.YtbmcigakiibncaaGreatDoorW.PrintMore
set_option linter.unusedVariables false
theorem sat_all : ((List.range 64).all fun (m : Nat) => (List.range 6).all fun (s : Nat) => (bits BinOp.and IntKind.i64 ((m : Int) / 2 ^ s) 1 == 0) == !m.testBit s) = true := by kernel_rfl
theorem sat_bit {m s : Nat} (hm : m < 64) (hs : s < 6) : (bits BinOp.and IntKind.i64 ((m : Int) / 2 ^ s) 1 == 0) = !m.testBit s := by
  have h := List.all_eq_true.1 (List.all_eq_true.1 sat_all m (List.mem_range.2 hm)) s (List.mem_range.2 hs)
  simpa using h
theorem sat1_calls (k s : Nat) (b : Nat) (A : Option Addr) (c : Nat) (ks : List Nat) (w : World) (hb : w.heap[b]? = some (.cells #[.slice A ks.length c] 22 (0, 0))) (hr : Kd.C (Kd.int .i64) w A ks.length (ks.map fun (m : Nat) => (m : Int))) (hk : k < ks.length) (hs : s < 6) (hm : ∀ m ∈ ks, m < 64) :
    Calls Tryz.prog 113 #[.agg #[.int .i64 (k : Int), .int .i64 (s : Int)], .pointer (some ⟨b, 0, none⟩)] w fun e w' => e = .returned (.bool (!(ks.getD k 0).testBit s)) ∧ Below w.heap.size w w' := by
  obtain ⟨ad, e0, hx⟩ := Kd.at_int hr (k : Int) (by omega) (by omega)
  subst e0
  have hv : rd (ks.map fun (m : Nat) => (m : Int)) (k : Int) = ((ks.getD k 0 : Nat) : Int) := by simp [rd, List.getD_eq_getElem?_getD, List.getElem?_eq_getElem hk]
  rw [hv, Int.toNat_natCast] at hx
  have hmv : ks.getD k 0 < 64 := by rw [List.getD_eq_getElem?_getD, List.getElem?_eq_getElem hk]; exact hm _ (List.getElem_mem hk)
  generalize ks.getD k 0 = m at *
  have hkz : (k : Int) < (ks.length : Int) := by omega
  have ha := below_alloc (Below.refl w.heap.size w) (.cells #[.int .i64 (k : Int), .int .i64 (s : Int)] 83)
  have hx1 := pw_cell_below ha hx
  have hb1 := blk_below hb ha
  have hn1 := blk_new w (.cells #[.int .i64 (k : Int), .int .i64 (s : Int)] 83)
  have HB := Aside0.mk ha
  clear hv hr hm hx hb ha
  go_enter Tryz.func113, Tryz.ntmps113
  go_upto_region 1 with (fail)
  generalize (w.alloc (.cells #[.int .i64 (k : Int), .int .i64 (s : Int)] 83)) = W1 at *
  have hc0 : W1.cell? ⟨b, 0, none⟩ = some (.slice (some ad) ks.length c) := (blk_cell hb1 0).trans rfl
  have hc1 : W1.cell? ⟨w.heap.size, 0, none⟩ = some (.int .i64 (k : Int)) := (blk_cell hn1 0).trans rfl
  have hc2 : W1.cell? ⟨w.heap.size, 1, none⟩ = some (.int .i64 (s : Int)) := (blk_cell hn1 1).trans rfl
  clear hb1 hn1
  go_region
  go_wp2
  go_ret
  refine ⟨?_, below_drew1 HB.out⟩
  rw [sat_bit (by assumption) (by assumption)]
  rfl
abbrev Mv := List (List (List (List Nd)))
def altsAt (M : Mv) (q f : Nat) : List (List Nd) := (M.getD q []).getD f []
def needOk (n r : Nat) (x : Nd) : Prop := ∃ k s : Nat, k < r ∧ s < n ∧ x = ⟨(k : Int), (s : Int)⟩
def meets (ks : List Nat) (x : Nd) : Bool := (ks.getD x.f0.toNat 0).testBit x.f1.toNat
def satBit (M : Mv) (f : Nat) (ks : List Nat) (q : Nat) : Bool := (altsAt M q f).any fun l => l.all (meets ks)
theorem or_all : ((List.range 64).all fun (o : Nat) => (List.range 6).all fun (q : Nat) => (bits BinOp.or IntKind.i64 (o : Int) (wrap64 (2 ^ min q 64)) == ((o ||| 2 ^ q : Nat) : Int)) && decide (o ||| 2 ^ q < 64) && ((List.range 6).all fun i => (o ||| 2 ^ q).testBit i == (o.testBit i || i == q))) = true := by kernel_rfl
theorem or_bit {o q : Nat} (ho : o < 64) (hq : q < 6) : bits BinOp.or IntKind.i64 (o : Int) (wrap64 (2 ^ min q 64)) = ((o ||| 2 ^ q : Nat) : Int) ∧ o ||| 2 ^ q < 64 ∧ ∀ i, i < 6 → (o ||| 2 ^ q).testBit i = (o.testBit i || i == q) := by
  have h := List.all_eq_true.1 (List.all_eq_true.1 or_all o (List.mem_range.2 ho)) q (List.mem_range.2 hq)
  simp only [Bool.and_eq_true, beq_iff_eq, decide_eq_true_eq] at h
  exact ⟨h.1.1, h.1.2, fun i hi => by have := List.all_eq_true.1 h.2 i (List.mem_range.2 hi); simpa using this⟩
theorem any_not {ks : List Nat} {l : List Nd} : (l.any fun x => !meets ks x) = !l.all (meets ks) := by
  induction l with
  | nil => rfl
  | cons a r ih => rw [List.any_cons, List.all_cons, ih, Bool.not_and]
theorem any_none_sl {α : Type} {p : List α → Bool} {l : List (List α)} (h : ∀ i, i < l.length → p (l.getD i []) = false) : l.any p = false := by
  refine List.any_eq_false.2 fun x hx => ?_
  obtain ⟨j, hj, rfl⟩ := List.getElem_of_mem hx
  have h2 := h j hj
  rw [List.getD_eq_getElem?_getD, List.getElem?_eq_getElem hj] at h2
  simpa using h2
theorem sat_pred (b : Nat) (A : Option Addr) (c : Nat) (ks : List Nat) (w : World) (hb : w.heap[b]? = some (.cells #[.slice A ks.length c] 22 (0, 0))) (hr : Kd.C (Kd.int .i64) w A ks.length (ks.map fun (m : Nat) => (m : Int))) (hm : ∀ m ∈ ks, m < 64) :
    PredN 113 #[.pointer (some ⟨b, 0, none⟩)] (needOk 6 ks.length) (fun x => !meets ks x) w := by
  rintro W x hW ⟨k, s, hk, hs, rfl⟩
  exact sat1_calls k s b A c ks W (blk_below hb hW) (Kd.C_below hr hW) hk hs hm
def SatEnd (M : Mv) (f : Nat) (ks : List Nat) (w : World) (E : Ending) (w' : World) : Prop := ∃ o : Nat, E = .returned (.int .i64 (o : Int)) ∧ o < 64 ∧ (∀ i, i < 6 → o.testBit i = (decide (i < M.length) && satBit M f ks i)) ∧ Below w.heap.size w w'
set_option maxHeartbeats 4000000 in
set_option maxRecDepth 100000 in
theorem sat_calls (M : Mv) (f : Nat) (ks : List Nat) (st : Int) (A1 : Option Addr) (n1 c1 : Nat) (A2 : Option Addr) (c2 : Nat) (A : Option Addr) (c : Nat) (w : World)
    (hM : Kd.C kA3 w A2 M.length M) (hr : Kd.C (Kd.int .i64) w A ks.length (ks.map fun (m : Nat) => (m : Int))) (hn : M.length ≤ 6) (hks : ∀ m ∈ ks, m < 64)
    (hf : ∀ q, q < M.length → f < (M.getD q []).length) (hx : ∀ q, q < M.length → ∀ l ∈ altsAt M q f, ∀ x ∈ l, needOk 6 ks.length x) :
    Calls Tryz.prog 91 #[.agg #[.slice A1 n1 c1, .int .i64 st, .slice A2 M.length c2], .int .i64 (f : Int), .slice A ks.length c] w (SatEnd M f ks w) := by
  have hmf := run_mkfun
  have HM := Aside0.mk hM
  have HK := Aside0.mk hr
  have HN := Aside0.mk hn
  have HS := Aside0.mk hks
  have HF := Aside0.mk hf
  have HX := Aside0.mk hx
  have ha := below_alloc (below_alloc (Below.refl w.heap.size w) (.cells #[.slice A1 n1 c1, .int .i64 st, .slice A2 M.length c2] 25)) (.cells #[.slice A ks.length c] 22)
  have hb1 := blk_alloc (blk_new w (.cells #[.slice A1 n1 c1, .int .i64 st, .slice A2 M.length c2] 25)) (.cells #[.slice A ks.length c] 22)
  have hb2 := blk_at2 w (.cells #[.slice A1 n1 c1, .int .i64 st, .slice A2 M.length c2] 25) (.cells #[.slice A ks.length c] 22)
  have HB := Aside0.mk ha
  have HB1 := Aside0.mk hb1
  have HB2 := Aside0.mk hb2
  clear hM hr hn hks hf hx ha hb1 hb2
  go_enter Tryz.func91, Tryz.ntmps91
  go_upto_region 1 with (fail)
  generalize ((w.alloc (.cells #[.slice A1 n1 c1, .int .i64 st, .slice A2 M.length c2] 25)).alloc (.cells #[.slice A ks.length c] 22)) = W1 at *
  have hk0 : W1.cell? ⟨w.heap.size, 2, none⟩ = some (.slice A2 M.length c2) := (blk_cell HB1.out 2).trans rfl
  go_wp2
  clear hk0
  go_loopg [7, 14] M.length (fun gg v7 v14 wi => ∃ o q : Nat, q ≤ M.length ∧ M.length - q ≤ gg ∧ v7 = .int .i64 o ∧ v14 = .int .i64 q ∧ o < 64 ∧ Aside0 (∀ i, i < 6 → o.testBit i = (decide (i < q) && satBit M f ks i)) ∧ Aside0 (Below w.heap.size w wi) ∧
    Aside0 (wi.heap[w.heap.size]? = some (.cells #[.slice A1 n1 c1, .int .i64 st, .slice A2 M.length c2] 25 (0, 0))) ∧ Aside0 (wi.heap[w.heap.size + 1]? = some (.cells #[.slice A ks.length c] 22 (0, 0))))
  case atStart => exact ⟨0, 0, by omega, by omega, rfl, rfl, by omega, ⟨fun i hi => by simp⟩, HB, HB1, HB2⟩
  case round =>
    clear HB HB1 HB2
    obtain ⟨o, q, hq, hgg, rfl, rfl, ho, HO, HB, HB1, HB2⟩ := hrel
    by_cases hlt : q < M.length
    · have hltz : (q : Int) < (M.length : Int) := by omega
      have hk0 : wr.cell? ⟨w.heap.size, 2, none⟩ = some (.slice A2 M.length c2) := (blk_cell HB1.out 2).trans rfl
      obtain ⟨ad, A3, c3, e, hx1, hl3, hC3⟩ := at_sl HM.out q hlt
      subst e
      have hfl := HF.out q hlt
      obtain ⟨ad4, A4, c4, e, hx2, hl4, hC4⟩ := at_sl hC3 f hfl
      subst e
      replace hx1 := pw_cell_below (HB.out) hx1
      replace hx2 := pw_cell_below (HB.out) hx2
      have hflz : (f : Int) < ((M.getD q []).length : Int) := by omega
      have HX1 := Aside0.mk (HX.out q hlt)
      have HSB := Aside0.mk (show satBit M f ks q = ((M.getD q []).getD f []).any fun l => l.all (meets ks) from rfl)
      unfold altsAt at HX1
      generalize (M.getD q []).length = m3 at *
      generalize (M.getD q []).getD f [] = alts at *
      have HC4 := Aside0.mk hC4
      clear hC3 hC4 hl3 hl4 hfl
      go_wp2
      clear hk0 hx1 hx2
      go_loopg [7, 26] alts.length (fun gg2 v7 v26 wi => ∃ j : Nat, j ≤ alts.length ∧ alts.length - j ≤ gg2 ∧ v7 = .int .i64 o ∧ v26 = .int .i64 j ∧ Aside0 (∀ i, i < j → (alts.getD i []).all (meets ks) = false) ∧ Aside0 (Below w.heap.size w wi) ∧
        Aside0 (wi.heap[w.heap.size]? = some (.cells #[.slice A1 n1 c1, .int .i64 st, .slice (some ad) M.length c2] 25 (0, 0))) ∧ Aside0 (wi.heap[w.heap.size + 1]? = some (.cells #[.slice A ks.length c] 22 (0, 0))))
      case atStart => exact ⟨0, by omega, by omega, rfl, rfl, ⟨fun i hi => absurd hi (Nat.not_lt_zero _)⟩, HB, HB1, HB2⟩
      case round =>
        clear HB HB1 HB2
        obtain ⟨j, hj, hgg2, rfl, rfl, HA, HB, HB1, HB2⟩ := hrel
        by_cases hjt : j < alts.length
        · have hjtz : (j : Int) < (alts.length : Int) := by omega
          obtain ⟨ad5, A5, c5, e, hx5, hl5, hC5⟩ := at_sl HC4.out j hjt
          subst e
          replace hx5 := pw_cell_below (HB.out) hx5
          have HL := Aside0.mk (show ∀ x ∈ alts.getD j [], needOk 6 ks.length x from HX1.out _ (by rw [List.getD_eq_getElem?_getD, List.getElem?_eq_getElem hjt]; exact List.getElem_mem hjt))
          have HAJ := Aside0.mk (show (alts.getD j []).all (meets ks) = true → (alts.any fun l => l.all (meets ks)) = true from fun h => List.any_eq_true.2 ⟨alts.getD j [], by rw [List.getD_eq_getElem?_getD, List.getElem?_eq_getElem hjt]; exact List.getElem_mem hjt, h⟩)
          generalize hy : alts.getD j [] = y at *
          have HY := Aside0.mk hy
          clear hy
          have HC := Aside0.mk (containsN_calls A5 c5 y 113 #[.pointer (some ⟨w.heap.size + 1, 0, none⟩)] (needOk 6 ks.length) (fun x => !meets ks x) wr (Kd.C_below hC5 HB.out) HL.out (sat_pred (w.heap.size + 1) A c ks wr HB2.out (Kd.C_below HK.out HB.out) HS.out) (fun _ _ => rfl))
          clear hC5 hl5
          cases hm : y.all (meets ks) with
          | true =>
            rw [any_not, hm] at HC
            have HAY := Aside0.mk (HAJ.out hm)
            clear hm
            go_wp2_with fail
            refine (HC.out).mono ?_
            rintro E w5 ⟨rfl, hb⟩
            have HB5 := Aside0.mk (below_then HB.out (HB.out).size hb)
            have HB51 := Aside0.mk (blk_below HB1.out hb)
            have HB52 := Aside0.mk (blk_below HB2.out hb)
            have HOR := Aside0.mk (or_bit ho (show q < 6 by have := HN.out; omega))
            clear hb HB HB1 HB2 HC hx5
            go_wp2
            go_roundg (M.length - (q + 1))
            case measure => omega
            case rel =>
              obtain ⟨hv, ho2, hob⟩ := HOR.out
              refine ⟨o ||| 2 ^ q, q + 1, by omega, by omega, by rw [hv], by rw [wrap_succ (by omega) (by have := HN.out; omega)]; rfl, ho2, ⟨fun i hi => ?_⟩, HB5, HB51, HB52⟩
              rw [hob i hi, HO.out i hi]
              by_cases e : i = q
              · subst e
                rw [HSB.out, HAY.out, beq_self_eq_true, Bool.or_true, decide_eq_true (by omega), Bool.and_true]
              · rw [beq_eq_false_iff_ne.2 e, Bool.or_false, show decide (i < q + 1) = decide (i < q) from decide_eq_decide.2 (by omega)]
          | false =>
            rw [any_not, hm] at HC
            have HAY := Aside0.mk hm
            clear hm
            go_wp2_with fail
            refine (HC.out).mono ?_
            rintro E w5 ⟨rfl, hb⟩
            have HB5 := Aside0.mk (below_then HB.out (HB.out).size hb)
            have HB51 := Aside0.mk (blk_below HB1.out hb)
            have HB52 := Aside0.mk (blk_below HB2.out hb)
            clear hb HB HB1 HB2 HC hx5
            go_wp2
            go_roundg (alts.length - (j + 1))
            case measure => omega
            case rel =>
              refine ⟨j + 1, by omega, by omega, rfl, by rw [wrap_succ (by omega) (by have := (HC4.out).2.1; omega)]; rfl, ⟨fun i hi => ?_⟩, HB5, HB51, HB52⟩
              by_cases e : i = j
              · subst e
                rw [HY.out]; exact HAY.out
              · exact HA.out i (by omega)
        · have hjtz : ¬ (j : Int) < (alts.length : Int) := by omega
          have HAN := Aside0.mk (show (alts.any fun l => l.all (meets ks)) = false from any_none_sl (fun i hi => HA.out i (by omega)))
          go_wp2
          go_roundg (M.length - (q + 1))
          case measure => omega
          case rel =>
            refine ⟨o, q + 1, by omega, by omega, rfl, by rw [wrap_succ (by omega) (by have := HN.out; omega)]; rfl, ho, ⟨fun i hi => ?_⟩, HB, HB1, HB2⟩
            rw [HO.out i hi]
            by_cases e : i = q
            · subst e
              rw [HSB.out, HAN.out, Bool.and_false, Bool.and_false]
            · rw [show decide (i < q + 1) = decide (i < q) from decide_eq_decide.2 (by omega)]
    · have hltz : ¬ (q : Int) < (M.length : Int) := by omega
      have hqe : q = M.length := by omega
      subst hqe
      go_wp2
      go_ret
      exact ⟨o, rfl, ho, HO.out, HB.out⟩
end Go.Proofs.YtbmcigakiibncaaGreatDoor.H
namespace Go.Proofs.YtbmcigakiibncaaGreatDoor.H
open Go.RowKit Go.Proofs.YtbmcigakiibncaaGreatDoorW.PrintWords Go.Proofs.YtbmcigakiibncaaGreatDoorW.PrintLast Go.Proofs.YtbmcigakiibncaaGreatDoorW.PrintMore
open Go.Proofs.YtbmcigakiibncaaGreatDoor.Q (S28 k28 rd_T28 z28 at_T28)
set_option linter.unusedVariables false
def IsMask (n : Nat) (p : Nat → Bool) (o : Nat) : Prop := o < 64 ∧ ∀ i, i < 6 → o.testBit i = (decide (i < n) && p i)
def MvOk (rk : List Int) (M : Mv) : Prop := M.length ≤ 6 ∧ (∀ q, q < M.length → (M.getD q []).length = rk.length) ∧ ∀ q f : Nat, q < M.length → f < rk.length → ∀ l ∈ altsAt M q f, ∀ x ∈ l, needOk M.length (rd rk (f : Int)).toNat x
theorem overL_mem {rk : List Int} {l : List S28} {t : S28} (h : overL rk l = true) (ht : t ∈ l) : overB rk t = true := by
  induction l with
  | nil => cases ht
  | cons a r ih =>
    rw [overL, Bool.and_eq_true] at h
    rcases List.mem_cons.1 ht with rfl | ht
    · exact h.1
    · exact ih h.2 ht
theorem any_congr {α : Type} {p q : α → Bool} {l : List α} (h : ∀ x ∈ l, p x = q x) : l.any p = l.any q := by
  induction l with
  | nil => rfl
  | cons a r ih => rw [List.any_cons, List.any_cons, h a List.mem_cons_self, ih fun x hx => h x (List.mem_cons_of_mem _ hx)]
theorem all_congr {α : Type} {p q : α → Bool} {l : List α} (h : ∀ x ∈ l, p x = q x) : l.all p = l.all q := by
  induction l with
  | nil => rfl
  | cons a r ih => rw [List.all_cons, List.all_cons, h a List.mem_cons_self, ih fun x hx => h x (List.mem_cons_of_mem _ hx)]
theorem full_all : ((List.range 7).all fun (n : Nat) => (wrap64 (wrap64 (2 ^ min n 64) - 1) == ((2 ^ n - 1 : Nat) : Int)) && decide (2 ^ n - 1 < 64) && ((List.range 6).all fun i => (2 ^ n - 1).testBit i == decide (i < n))) = true := by kernel_rfl
theorem full_bit {n : Nat} (hn : n ≤ 6) : wrap64 (wrap64 (2 ^ min n 64) - 1) = ((2 ^ n - 1 : Nat) : Int) ∧ IsMask n (fun _ => true) (2 ^ n - 1) := by
  have h := List.all_eq_true.1 full_all n (List.mem_range.2 (by omega))
  simp only [Bool.and_eq_true, beq_iff_eq, decide_eq_true_eq] at h
  exact ⟨h.1.1, h.1.2, fun i hi => by have := List.all_eq_true.1 h.2 i (List.mem_range.2 hi); rw [Bool.and_true]; exact beq_iff_eq.1 this⟩
end Go.Proofs.YtbmcigakiibncaaGreatDoor.H
namespace Go.Proofs.YtbmcigakiibncaaGreatDoor.H
open Go.RowKit Go.Proofs.YtbmcigakiibncaaGreatDoorW.PrintWords Go.Proofs.YtbmcigakiibncaaGreatDoorW.PrintLast Go.Proofs.YtbmcigakiibncaaGreatDoorW.PrintMore
set_option linter.unusedVariables false
theorem rank_le {rk : List Int} (h : ranksB rk = true) {f : Nat} (hf : f < rk.length) : 0 ≤ rd rk (f : Int) ∧ rd rk (f : Int) ≤ 4 := by
  unfold ranksB at h
  have hm := rd_mem (xs := rk) hf
  generalize rd rk (f : Int) = r at *
  simp only [Bool.and_eq_true, List.all_eq_true, decide_eq_true_eq] at h
  exact h.1 r hm
theorem getD_memA {α : Type} {xs : List (List α)} {k : Nat} (h : k < xs.length) : xs.getD k [] ∈ xs := by
  rw [List.getD_eq_getElem?_getD, List.getElem?_eq_getElem h]; exact List.getElem_mem h
end Go.Proofs.YtbmcigakiibncaaGreatDoor.H
namespace Go.Proofs.YtbmcigakiibncaaGreatDoor.H
open Go.RowKit Go.Proofs.YtbmcigakiibncaaGreatDoorW.PrintWords Go.Proofs.YtbmcigakiibncaaGreatDoorW.PrintLast Go.Proofs.YtbmcigakiibncaaGreatDoorW.PrintMore
open Go.Proofs.YtbmcigakiibncaaGreatDoor.Q (S28 k28 rd_T28 z28 at_T28)
set_option linter.unusedVariables false
theorem contains_all : ((List.range 64).all fun (o : Nat) => (List.range 6).all fun (s : Nat) => Q.slices_Contains_int_int.f 20 (bitsL o) (s : Int) == some (o.testBit s)) = true := by kernel_rfl
theorem contains_bit {o s : Nat} (ho : o < 64) (hs : s < 6) : Q.slices_Contains_int_int.f 20 (bitsL o) (s : Int) = some (o.testBit s) := by
  have h := List.all_eq_true.1 (List.all_eq_true.1 contains_all o (List.mem_range.2 ho)) s (List.mem_range.2 hs)
  simpa using h
theorem box3_cells {W : World} {b : Nat} {x y z : Value} {t : TypeId} (h : W.heap[b]? = some (.cells #[x, y, z] t (0, 0))) : W.cell? ⟨b, 0, none⟩ = some x ∧ W.cell? ⟨b, 1, none⟩ = some y ∧ W.cell? ⟨b, 2, none⟩ = some z :=
  ⟨(blk_cell h 0).trans rfl, (blk_cell h 1).trans rfl, (blk_cell h 2).trans rfl⟩
theorem box2_cells {W : World} {b : Nat} {x y : Value} {t : TypeId} (h : W.heap[b]? = some (.cells #[x, y] t (0, 0))) : W.cell? ⟨b, 0, none⟩ = some x ∧ W.cell? ⟨b, 1, none⟩ = some y :=
  ⟨(blk_cell h 0).trans rfl, (blk_cell h 1).trans rfl⟩
structure AT2 (w W : World) (a b : Array Value) : Prop where
  hb : Below w.heap.size w W
  h1 : W.heap[w.heap.size]? = some (.cells a 25 (0, 0))
  h2 : W.heap[w.heap.size + 1]? = some (.cells b 28 (0, 0))
theorem AT2.start (w : World) (a b : Array Value) : AT2 w ((w.alloc (.cells a 25)).alloc (.cells b 28)) a b := ⟨below_alloc (below_alloc (Below.refl _ _) _) _, blk_alloc (blk_new w (.cells a 25)) (.cells b 28), blk_at2 w (.cells a 25) (.cells b 28)⟩
theorem AT2.below {w W W1 : World} {a b : Array Value} (h : AT2 w W a b) (hb : Below W.heap.size W W1) : AT2 w W1 a b := ⟨below_then h.hb h.hb.size hb, blk_below h.h1 hb, blk_below h.h2 hb⟩
end Go.Proofs.YtbmcigakiibncaaGreatDoor.H
namespace Go.Proofs.YtbmcigakiibncaaGreatDoor.H
open Go.RowKit Go.Proofs.YtbmcigakiibncaaGreatDoorW.PrintWords Go.Proofs.YtbmcigakiibncaaGreatDoorW.PrintLast Go.Proofs.YtbmcigakiibncaaGreatDoorW.PrintMore
set_option linter.unusedVariables false
def nbad (r n : Int) (x : Nd) : Bool := decide (x.f0 < 0) || decide (x.f0 ≥ r) || decide (x.f1 < 0) || decide (x.f1 ≥ n)
def befI (x y : Nd) : Int := if x.f0 = y.f0 then x.f1 - y.f1 else x.f0 - y.f0
def upN (l : List Nd) : Bool := (List.range (l.length - 1)).all fun i => decide (befI (l.getD i zN) (l.getD (i + 1) zN) < 0)
def cmpL : List Nd → List Nd → Int
  | [], [] => 0
  | [], _ :: _ => -1
  | _ :: _, [] => 1
  | x :: a, y :: b => if befI x y ≠ 0 then befI x y else cmpL a b
def upL (l : List (List Nd)) : Bool := (List.range (l.length - 1)).all fun i => decide (cmpL (l.getD i []) (l.getD (i + 1) []) < 0)
def listOk (r n : Int) (l : List Nd) : Bool := decide (l.length ≤ 24) && !(l.any (nbad r n)) && upN l
def altsOk (r n : Int) (l : List (List Nd)) : Bool := decide (l.length ≤ 12) && l.all (listOk r n) && upL l
def mrowOk (rk : List Int) (n : Int) (row : List (List (List Nd))) : Bool := decide (row.length = rk.length) && (List.range rk.length).all fun f => altsOk (rd rk (f : Int)) n (row.getD f [])
def auB (rk : List Int) (st : Int) (M : Mv) : Bool := ranksB rk && decide (1 ≤ M.length) && decide (M.length ≤ 6) && decide (0 ≤ st) && decide (st < (M.length : Int)) && M.all (mrowOk rk (M.length : Int))
def smallN (x : Nd) : Prop := 0 ≤ x.f0 ∧ x.f0 < 100 ∧ 0 ≤ x.f1 ∧ x.f1 < 100
theorem range_false {n i : Nat} {p : Nat → Bool} (hi : i < n) (h : p i = false) : (List.range n).all p = false := by
  cases e : (List.range n).all p with
  | false => rfl
  | true => rw [List.all_eq_true.1 e i (List.mem_range.2 hi)] at h; cases h
theorem range_true {n : Nat} {p : Nat → Bool} (h : ∀ i, i < n → p i = true) : (List.range n).all p = true := List.all_eq_true.2 fun i hi => h i (List.mem_range.1 hi)
set_option maxHeartbeats 8000000 in
set_option maxRecDepth 100000 in
theorem badG_calls (x : Nd) (f n : Nat) (ba bf bn : Nat) (rk : List Int) (A1 : Option Addr) (c1 : Nat) (v1 v2 : Value) (w : World) (ha : w.heap[ba]? = some (.cells #[.slice A1 rk.length c1, v1, v2] 25 (0, 0))) (hbf : w.heap[bf]? = some (.cells #[.int .i64 (f : Int)] 3 (0, 0))) (hbn : w.heap[bn]? = some (.cells #[.int .i64 (n : Int)] 3 (0, 0)))
    (hr : Kd.C (Kd.int .i64) w A1 rk.length rk) (hf : f < rk.length) :
    Calls Tryz.prog 73 #[.agg #[.int .i64 x.f0, .int .i64 x.f1], .pointer (some ⟨ba, 0, none⟩), .pointer (some ⟨bf, 0, none⟩), .pointer (some ⟨bn, 0, none⟩)] w fun e w' => e = .returned (.bool (nbad (rd rk (f : Int)) (n : Int) x)) ∧ Below w.heap.size w w' := by
  obtain ⟨k, s⟩ := x
  obtain ⟨ad, e0, hx⟩ := Kd.at_int hr (f : Int) (by omega) (by omega)
  subst e0
  rw [Int.toNat_natCast] at hx
  unfold nbad
  simp only
  generalize rd rk (f : Int) = r at *
  have hfz : (f : Int) < (rk.length : Int) := by omega
  have hb1 := below_alloc (Below.refl w.heap.size w) (.cells #[.int .i64 k, .int .i64 s] 83)
  have hx1 := pw_cell_below hb1 hx
  have ha1 := blk_below ha hb1
  have hf1 := blk_below hbf hb1
  have hn1 := blk_below hbn hb1
  have hnew := blk_new w (.cells #[.int .i64 k, .int .i64 s] 83)
  have HB := Aside0.mk hb1
  clear hx hr ha hbf hbn hf hb1
  go_enter Tryz.func73, Tryz.ntmps73
  go_upto_region 1 with (fail)
  generalize (w.alloc (.cells #[.int .i64 k, .int .i64 s] 83)) = W1 at *
  have hc0 : W1.cell? ⟨ba, 0, none⟩ = some (.slice (some ad) rk.length c1) := (blk_cell ha1 0).trans rfl
  have hc1 : W1.cell? ⟨bf, 0, none⟩ = some (.int .i64 (f : Int)) := (blk_cell hf1 0).trans rfl
  have hc2 : W1.cell? ⟨bn, 0, none⟩ = some (.int .i64 (n : Int)) := (blk_cell hn1 0).trans rfl
  have hc3 : W1.cell? ⟨w.heap.size, 0, none⟩ = some (.int .i64 k) := (blk_cell hnew 0).trans rfl
  have hc4 : W1.cell? ⟨w.heap.size, 1, none⟩ = some (.int .i64 s) := (blk_cell hnew 1).trans rfl
  clear ha1 hf1 hn1 hnew
  cases q1 : decide (k < 0) with
  | true =>
    have HV := Aside0.mk (show (decide (k < 0) || decide (k ≥ r) || decide (s < 0) || decide (s ≥ (n : Int))) = true by rw [q1]; rfl)
    go_quiet (fail)
    go_wp2
    go_ret
    exact ⟨by rw [HV.out]; rfl, by apply pw_below_drewN; exact HB.out⟩
  | false =>
    cases q2 : decide (k ≥ r) with
    | true =>
      have HV := Aside0.mk (show (decide (k < 0) || decide (k ≥ r) || decide (s < 0) || decide (s ≥ (n : Int))) = true by rw [q1, q2]; rfl)
      go_quiet (fail)
      go_wp2
      go_ret
      exact ⟨by rw [HV.out]; rfl, by apply pw_below_drewN; exact HB.out⟩
    | false =>
      cases q3 : decide (s < 0) with
      | true =>
        have HV := Aside0.mk (show (decide (k < 0) || decide (k ≥ r) || decide (s < 0) || decide (s ≥ (n : Int))) = true by rw [q1, q2, q3]; rfl)
        go_quiet (fail)
        go_wp2
        go_ret
        exact ⟨by rw [HV.out]; rfl, by apply pw_below_drewN; exact HB.out⟩
      | false =>
        cases q4 : decide (s ≥ (n : Int)) with
        | true =>
          have HV := Aside0.mk (show (decide (k < 0) || decide (k ≥ r) || decide (s < 0) || decide (s ≥ (n : Int))) = true by rw [q1, q2, q3, q4]; rfl)
          go_quiet (fail)
          go_wp2
          go_ret
          exact ⟨by rw [HV.out]; rfl, by apply pw_below_drewN; exact HB.out⟩
        | false =>
          have HV := Aside0.mk (show (decide (k < 0) || decide (k ≥ r) || decide (s < 0) || decide (s ≥ (n : Int))) = false by rw [q1, q2, q3, q4]; rfl)
          go_quiet (fail)
          go_wp2
          go_ret
          exact ⟨by rw [HV.out]; rfl, by apply pw_below_drewN; exact HB.out⟩
theorem badG_pred (f n : Nat) (ba bf bn : Nat) (rk : List Int) (A1 : Option Addr) (c1 : Nat) (v1 v2 : Value) (w : World) (ha : w.heap[ba]? = some (.cells #[.slice A1 rk.length c1, v1, v2] 25 (0, 0))) (hbf : w.heap[bf]? = some (.cells #[.int .i64 (f : Int)] 3 (0, 0))) (hbn : w.heap[bn]? = some (.cells #[.int .i64 (n : Int)] 3 (0, 0)))
    (hr : Kd.C (Kd.int .i64) w A1 rk.length rk) (hf : f < rk.length) :
    PredN 73 #[.pointer (some ⟨ba, 0, none⟩), .pointer (some ⟨bf, 0, none⟩), .pointer (some ⟨bn, 0, none⟩)] (fun _ => True) (nbad (rd rk (f : Int)) (n : Int)) w :=
  fun W x hW _ => badG_calls x f n ba bf bn rk A1 c1 v1 v2 W (blk_below ha hW) (blk_below hbf hW) (blk_below hbn hW) (Kd.C_below hr hW) hf
theorem before_calls (x y : Nd) (hx : smallN x) (hy : smallN y) (W : World) : Calls Tryz.prog 76 #[.agg #[.int .i64 x.f0, .int .i64 x.f1], .agg #[.int .i64 y.f0, .int .i64 y.f1]] W fun E w' => E = .returned (.int .i64 (befI x y)) ∧ Below W.heap.size W w' := by
  obtain ⟨a1, a2, a3, a4⟩ := hx
  obtain ⟨b1, b2, b3, b4⟩ := hy
  refine Q.auto_Before.calls x.f0 x.f1 y.f0 y.f1 (befI x y) W ?_
  unfold Q.auto_Before.f befI
  by_cases h : x.f0 = y.f0
  · rw [if_pos h, if_pos h, wr_id (by omega) (by omega)]
  · rw [if_neg h, if_neg h, wr_id (by omega) (by omega)]
set_option maxHeartbeats 4000000 in
theorem risingG_calls (A : Option Addr) (c : Nat) (l : List Nd) (w : World) (hr : Kd.C Q.k83 w A l.length l) (hl : l.length ≤ 24) (hx : ∀ x ∈ l, smallN x) :
    Calls Tryz.prog 75 #[.slice A l.length c, .func (.func 76) #[] #[]] w fun e w' => e = .returned (.bool (upN l)) ∧ Below w.heap.size w w' := by
  have HR := Aside0.mk hr
  have HL := Aside0.mk hl
  have HX := Aside0.mk hx
  clear hr hl hx
  go_enter Tryz.func75, Tryz.ntmps75
  go_wp2
  go_loopg [5] l.length (fun gg v5 wi => ∃ j : Nat, l.length - j ≤ gg ∧ v5 = .int .i64 ((j : Int) + 1) ∧ (j ≤ l.length) ∧ Aside0 (Below w.heap.size w wi) ∧ Aside0 (∀ i, i < j → i < l.length - 1 → decide (befI (l.getD i zN) (l.getD (i + 1) zN) < 0) = true))
  case atStart => exact ⟨0, by omega, by rfl, by omega, ⟨Below.refl _ _⟩, ⟨fun i hi => absurd hi (Nat.not_lt_zero _)⟩⟩
  case round =>
    obtain ⟨j, hgg, rfl, hj, HB, HA⟩ := hrel
    by_cases hlt : j + 1 < l.length
    · have hltz : (j : Int) + 1 < (l.length : Int) := by omega
      have hlt0 : (j : Int) < (l.length : Int) := by omega
      have hwj : IntKind.i64.wrap (j : Int) = (j : Int) := by rw [i64_w]; exact wr_id (by omega) (by have := HL.out; omega)
      have hl24 : (l.length : Int) ≤ 24 := by have := HL.out; omega
      obtain ⟨ad, e, hx0, hx1⟩ := at_need HR.out j (by omega)
      subst e
      obtain ⟨ad', e, hy0, hy1⟩ := at_need HR.out (j + 1) hlt
      cases e
      replace hx0 := pw_cell_below HB.out hx0
      replace hx1 := pw_cell_below HB.out hx1
      replace hy0 := pw_cell_below HB.out hy0
      replace hy1 := pw_cell_below HB.out hy1
      have h1 := HX.out _ (getD_memN (k := j) (by omega))
      have h2 := HX.out _ (getD_memN (k := j + 1) hlt)
      generalize hxe : l.getD j zN = x at *
      generalize hye : l.getD (j + 1) zN = y at *
      have HE := Aside0.mk (And.intro hxe hye)
      clear hxe hye
      have HBe := Aside0.mk fun W : World => before_calls x y h1 h2 W
      have h0j : (0 : Int) ≤ (j : Int) + 1 := by omega
      clear h1 h2
      generalize hv : befI x y = v at *
      have HV := Aside0.mk hv
      clear hv
      by_cases hneg : v < 0
      · have hnle : ¬ 0 ≤ v := by omega
        have HNG := Aside0.mk hneg
        clear hneg
        go_upto_region 4 with (fail)
        go_region_held3 (fun w' => (w'.cell? (ad.add (j * 2)) = some (.int .i64 x.f0) ∧ w'.cell? ⟨(ad.add (j * 2)).block, (ad.add (j * 2)).off + 1, none⟩ = some (.int .i64 x.f1)) ∧ (w'.cell? (ad.add ((j + 1) * 2)) = some (.int .i64 y.f0) ∧ w'.cell? ⟨(ad.add ((j + 1) * 2)).block, (ad.add ((j + 1) * 2)).off + 1, none⟩ = some (.int .i64 y.f1)))
          (first | exact ⟨⟨hx0, hx1⟩, hy0, hy1⟩ | exact ⟨⟨pw_cell_below HB2.out hx0, pw_cell_below HB2.out hx1⟩, pw_cell_below HB2.out hy0, pw_cell_below HB2.out hy1⟩ | fail)
          (first | (go_at_call 76; (with_reducible refine (HBe.out _).mono ?_); rintro E w2 ⟨rfl, hb⟩; have HB2 := Aside0.mk (below_then (below_drew (Below.refl wr.heap.size wr)) (below_drew (Below.refl wr.heap.size wr)).size hb); clear hb) | fail)
        go_wp2
        go_roundg (l.length - (j + 1))
        case measure => omega
        case rel =>
          refine ⟨j + 1, by omega, by first | rfl | (rw [wrap_succ (by omega) (by omega)]; rfl), by omega, ⟨below_then HB.out (HB.out).size HB2.out⟩, ⟨fun i hi hi2 => ?_⟩⟩
          by_cases e : i = j
          · subst e
            rw [(HE.out).1, (HE.out).2, HV.out]
            exact decide_eq_true HNG.out
          · exact HA.out i (by omega) hi2
      · have hnle : 0 ≤ v := by omega
        have HNG := Aside0.mk hneg
        clear hneg
        go_upto_region 4 with (fail)
        go_region_held3 (fun w' => (w'.cell? (ad.add (j * 2)) = some (.int .i64 x.f0) ∧ w'.cell? ⟨(ad.add (j * 2)).block, (ad.add (j * 2)).off + 1, none⟩ = some (.int .i64 x.f1)) ∧ (w'.cell? (ad.add ((j + 1) * 2)) = some (.int .i64 y.f0) ∧ w'.cell? ⟨(ad.add ((j + 1) * 2)).block, (ad.add ((j + 1) * 2)).off + 1, none⟩ = some (.int .i64 y.f1)))
          (first | exact ⟨⟨hx0, hx1⟩, hy0, hy1⟩ | exact ⟨⟨pw_cell_below HB2.out hx0, pw_cell_below HB2.out hx1⟩, pw_cell_below HB2.out hy0, pw_cell_below HB2.out hy1⟩ | fail)
          (first | (go_at_call 76; (with_reducible refine (HBe.out _).mono ?_); rintro E w2 ⟨rfl, hb⟩; have HB2 := Aside0.mk (below_then (below_drew (Below.refl wr.heap.size wr)) (below_drew (Below.refl wr.heap.size wr)).size hb); clear hb) | fail)
        go_wp2
        go_ret
        refine ⟨?_, below_then HB.out (HB.out).size HB2.out⟩
        rw [show upN l = false from range_false (i := j) (by omega) (by rw [(HE.out).1, (HE.out).2, HV.out]; exact decide_eq_false (by have := HNG.out; omega))]
        rfl
    · have hltz : ¬ (j : Int) + 1 < (l.length : Int) := by omega
      go_wp2
      go_ret
      refine ⟨?_, HB.out⟩
      rw [show upN l = true from range_true fun i hi => HA.out i (by omega) hi]
      rfl
end Go.Proofs.YtbmcigakiibncaaGreatDoor.H
namespace Go.Proofs.YtbmcigakiibncaaGreatDoor.H
open Go.RowKit Go.Proofs.YtbmcigakiibncaaGreatDoorW.PrintWords Go.Proofs.YtbmcigakiibncaaGreatDoorW.PrintLast Go.Proofs.YtbmcigakiibncaaGreatDoorW.PrintMore
set_option linter.unusedVariables false
theorem add_succ (ad : Addr) (j : Nat) : ad.add (j + 1) = ⟨ad.block, ad.off + (j + 1), none⟩ := by unfold Addr.add; split <;> simp_all
theorem cmpL_nil (b : List Nd) : cmpL [] b = if b.length = 0 then 0 else -1 := by
  cases b with
  | nil => rfl
  | cons y b => rw [if_neg (by simp)]; rfl
theorem cmpL_end (a : List Nd) (h : a ≠ []) : cmpL a [] = 1 := by
  cases a with
  | nil => exact absurd rfl h
  | cons x a => rfl
theorem cmpL_drop {a b : List Nd} {j : Nat} (h1 : j < a.length) (h2 : j < b.length) : cmpL (a.drop j) (b.drop j) = if befI (a.getD j zN) (b.getD j zN) ≠ 0 then befI (a.getD j zN) (b.getD j zN) else cmpL (a.drop (j + 1)) (b.drop (j + 1)) := by
  rw [List.drop_eq_getElem_cons h1, List.drop_eq_getElem_cons h2, List.getD_eq_getElem?_getD, List.getD_eq_getElem?_getD, List.getElem?_eq_getElem h1, List.getElem?_eq_getElem h2]
  rfl
set_option maxHeartbeats 4000000 in
set_option maxRecDepth 100000 in
theorem cmp_calls (a b : List Nd) (A : Option Addr) (ca : Nat) (B : Option Addr) (cb : Nat) (w : World) (hra : Kd.C Q.k83 w A a.length a) (hrb : Kd.C Q.k83 w B b.length b) (ha : a.length ≤ 24) (hxa : ∀ x ∈ a, smallN x) (hxb : ∀ x ∈ b, smallN x) :
    Calls Tryz.prog 109 #[.slice A a.length ca, .slice B b.length cb, .func (.func 76) #[] #[]] w fun e w' => e = .returned (.int .i64 (cmpL a b)) ∧ Below w.heap.size w w' := by
  have HRA := Aside0.mk hra
  have HRB := Aside0.mk hrb
  have HL := Aside0.mk ha
  have HXA := Aside0.mk hxa
  have HXB := Aside0.mk hxb
  clear hra hrb ha hxa hxb
  go_enter Tryz.func109, Tryz.ntmps109
  go_wp2
  go_loopg [13] a.length (fun gg v13 wi => ∃ j : Nat, a.length - j ≤ gg ∧ v13 = .int .i64 j ∧ j ≤ a.length ∧ j ≤ b.length ∧ Aside0 (Below w.heap.size w wi) ∧ Aside0 (cmpL (a.drop j) (b.drop j) = cmpL a b))
  case atStart => exact ⟨0, by omega, rfl, by omega, by omega, ⟨Below.refl _ _⟩, ⟨rfl⟩⟩
  case round =>
    obtain ⟨j, hgg, rfl, hj, hjb, HB, HE⟩ := hrel
    by_cases hlt : j < a.length
    · have hltz : (j : Int) < (a.length : Int) := by omega
      obtain ⟨ad, e, hx0, hx1⟩ := at_need HRA.out j hlt
      subst e
      replace hx0 := pw_cell_below HB.out hx0
      replace hx1 := pw_cell_below HB.out hx1
      have h1 := HXA.out _ (getD_memN hlt)
      by_cases hlb : j < b.length
      · have hlbz : ¬ (j : Int) ≥ (b.length : Int) := by omega
        have hlb2 : (j : Int) < (b.length : Int) := by omega
        obtain ⟨bd, e, hy0, hy1⟩ := at_need HRB.out j hlb
        subst e
        replace hy0 := pw_cell_below HB.out hy0
        replace hy1 := pw_cell_below HB.out hy1
        have h2 := HXB.out _ (getD_memN hlb)
        have hst := cmpL_drop hlt hlb
        rw [HE.out] at hst
        generalize a.getD j zN = x at *
        generalize b.getD j zN = y at *
        have HBe := Aside0.mk fun W : World => before_calls x y h1 h2 W
        clear h1 h2
        generalize befI x y = v at *
        have HST := Aside0.mk hst
        clear hst
        have hal := below_alloc (below_alloc (Below.refl wr.heap.size wr) (.cells #[.int .i64 x.f0, .int .i64 x.f1] 83)) (.cells #[.int .i64 y.f0, .int .i64 y.f1] 83)
        have hz1 := blk_alloc (blk_new wr (.cells #[.int .i64 x.f0, .int .i64 x.f1] 83)) (.cells #[.int .i64 y.f0, .int .i64 y.f1] 83)
        have hz2 := blk_at2 wr (.cells #[.int .i64 x.f0, .int .i64 x.f1] 83) (.cells #[.int .i64 y.f0, .int .i64 y.f1] 83)
        have hy0' := pw_cell_below (below_alloc (Below.refl wr.heap.size wr) (.cells #[.int .i64 x.f0, .int .i64 x.f1] 83)) hy0
        have hy1' := pw_cell_below (below_alloc (Below.refl wr.heap.size wr) (.cells #[.int .i64 x.f0, .int .i64 x.f1] 83)) hy1
        clear hy0 hy1
        have HB2 := Aside0.mk (below_then HB.out (HB.out).size hal)
        clear hal
        go_upto_region 7 with (fail)
        generalize ((wr.alloc (.cells #[.int .i64 x.f0, .int .i64 x.f1] 83)).alloc (.cells #[.int .i64 y.f0, .int .i64 y.f1] 83)) = w5 at *
        have hk0 : w5.cell? ⟨wr.heap.size, 0, none⟩ = some (.int .i64 x.f0) := (blk_cell hz1 0).trans rfl
        have hk1 : w5.cell? ⟨wr.heap.size, 1, none⟩ = some (.int .i64 x.f1) := (blk_cell hz1 1).trans rfl
        have hk2 : w5.cell? ⟨wr.heap.size + 1, 0, none⟩ = some (.int .i64 y.f0) := (blk_cell hz2 0).trans rfl
        have hk3 : w5.cell? ⟨wr.heap.size + 1, 1, none⟩ = some (.int .i64 y.f1) := (blk_cell hz2 1).trans rfl
        clear hz1 hz2 hx0 hx1 hy0' hy1'
        by_cases hv : v = 0
        · subst hv
          have hst2 := HST.out
          rw [if_neg (by simp)] at hst2
          have HST2 := Aside0.mk hst2
          clear hst2 HST
          go_wp2_with fail
          refine (HBe.out _).mono ?_
          rintro E w6 ⟨rfl, hb⟩
          have HB6 := Aside0.mk (below_then HB2.out (HB2.out).size hb)
          clear hb hk0 hk1 hk2 hk3 HB2
          go_wp2
          go_roundg (a.length - (j + 1))
          case measure => omega
          case rel => exact ⟨j + 1, by omega, by rw [wrap_succ (by omega) (by have := HL.out; omega)]; rfl, by omega, by omega, HB6, ⟨HST2.out.symm⟩⟩
        · have d1 : (v == 0) = false := beq_eq_false_iff_ne.2 hv
          have d2 : (v != 0) = true := bne_iff_ne.2 hv
          have hst2 := HST.out
          rw [if_pos hv] at hst2
          have HST2 := Aside0.mk hst2
          clear hst2 HST hv
          go_wp2_with fail
          refine (HBe.out _).mono ?_
          rintro E w6 ⟨rfl, hb⟩
          have HB6 := Aside0.mk (below_then HB2.out (HB2.out).size hb)
          clear hb hk0 hk1 hk2 hk3 HB2
          go_wp2
          go_ret
          exact ⟨by rw [HST2.out]; rfl, HB6.out⟩
      · have hlbz : (j : Int) ≥ (b.length : Int) := by omega
        have hv := HE.out
        rw [show b.drop j = [] from List.drop_eq_nil_of_le (by omega), cmpL_end _ (by intro h; have := congrArg List.length h; rw [List.length_drop, List.length_nil] at this; omega)] at hv
        have HV := Aside0.mk hv
        clear hv h1
        generalize a.getD j zN = x at *
        have hal := below_alloc (Below.refl wr.heap.size wr) (.cells #[.int .i64 x.f0, .int .i64 x.f1] 83)
        have HB2 := Aside0.mk (below_then HB.out (HB.out).size hal)
        clear hal
        go_wp2
        go_ret
        exact ⟨by rw [← HV.out]; rfl, HB2.out⟩
    · have hltz : ¬ (j : Int) < (a.length : Int) := by omega
      have hje : j = a.length := by omega
      have hv := HE.out
      rw [hje, List.drop_length, cmpL_nil, List.length_drop] at hv
      by_cases hab : a.length < b.length
      · have habz : (a.length : Int) < (b.length : Int) := by omega
        rw [if_neg (by omega)] at hv
        have HV := Aside0.mk hv
        clear hv hje
        go_wp2
        go_ret
        exact ⟨by rw [← HV.out]; rfl, HB.out⟩
      · have habz : ¬ (a.length : Int) < (b.length : Int) := by omega
        rw [if_pos (by omega)] at hv
        have HV := Aside0.mk hv
        clear hv hje
        go_wp2
        go_ret
        exact ⟨by rw [← HV.out]; rfl, HB.out⟩
theorem lists_calls (a b : List Nd) (A : Option Addr) (ca : Nat) (B : Option Addr) (cb : Nat) (w : World) (hra : Kd.C Q.k83 w A a.length a) (hrb : Kd.C Q.k83 w B b.length b) (ha : a.length ≤ 24) (hxa : ∀ x ∈ a, smallN x) (hxb : ∀ x ∈ b, smallN x) :
    Calls Tryz.prog 78 #[.slice A a.length ca, .slice B b.length cb] w fun e w' => e = .returned (.int .i64 (cmpL a b)) ∧ Below w.heap.size w w' := by
  have H := Aside0.mk (cmp_calls a b A ca B cb w hra hrb ha hxa hxb)
  clear hra hrb ha hxa hxb
  go_enter Tryz.func78, Tryz.ntmps78
  go_wp2_with fail
  refine (H.out).mono ?_
  rintro E w2 ⟨rfl, hb⟩
  have HB := Aside0.mk hb
  clear hb H
  go_wp2
  go_ret
  exact ⟨rfl, HB.out⟩
set_option maxHeartbeats 4000000 in
theorem risingLG_calls (A : Option Addr) (c : Nat) (l : List (List Nd)) (w : World) (hr : Kd.C kA1 w A l.length l) (hl : l.length ≤ 12) (hx : ∀ y ∈ l, y.length ≤ 24 ∧ ∀ x ∈ y, smallN x) :
    Calls Tryz.prog 77 #[.slice A l.length c, .func (.func 78) #[] #[]] w fun e w' => e = .returned (.bool (upL l)) ∧ Below w.heap.size w w' := by
  have HR := Aside0.mk hr
  have HL := Aside0.mk hl
  have HX := Aside0.mk hx
  clear hr hl hx
  go_enter Tryz.func77, Tryz.ntmps77
  go_wp2
  go_loopg [5] l.length (fun gg v5 wi => ∃ j : Nat, l.length - j ≤ gg ∧ v5 = .int .i64 ((j : Int) + 1) ∧ (j ≤ l.length) ∧ Aside0 (Below w.heap.size w wi) ∧ Aside0 (∀ i, i < j → i < l.length - 1 → decide (cmpL (l.getD i []) (l.getD (i + 1) []) < 0) = true))
  case atStart => exact ⟨0, by omega, by rfl, by omega, ⟨Below.refl _ _⟩, ⟨fun i hi => absurd hi (Nat.not_lt_zero _)⟩⟩
  case round =>
    obtain ⟨j, hgg, rfl, hj, HB, HA⟩ := hrel
    by_cases hlt : j + 1 < l.length
    · have hltz : (j : Int) + 1 < (l.length : Int) := by omega
      have hlt0 : (j : Int) < (l.length : Int) := by omega
      have hwj : IntKind.i64.wrap (j : Int) = (j : Int) := by rw [i64_w]; exact wr_id (by omega) (by have := HL.out; omega)
      have hl24 : (l.length : Int) ≤ 24 := by have := HL.out; omega
      obtain ⟨ad, A1, c1, e, hx0, hl1, hC1⟩ := at_sl HR.out j (by omega)
      subst e
      obtain ⟨ad', A2, c2, e, hy0, hl2, hC2⟩ := at_sl HR.out (j + 1) hlt
      cases e
      replace hx0 := pw_cell_below HB.out hx0
      replace hy0 := pw_cell_below HB.out hy0
      rw [add_succ] at hy0
      have h1 := HX.out _ (getD_memA (k := j) (by omega))
      have h2 := HX.out _ (getD_memA (k := j + 1) hlt)
      generalize hxe : l.getD j [] = x at *
      generalize hye : l.getD (j + 1) [] = y at *
      have HE := Aside0.mk (And.intro hxe hye)
      clear hxe hye
      have HBe := Aside0.mk fun (W : World) (hW : Below w.heap.size w W) => lists_calls x y A1 c1 A2 c2 W (Kd.C_below hC1 hW) (Kd.C_below hC2 hW) h1.1 h1.2 h2.2
      have h0j : (0 : Int) ≤ (j : Int) + 1 := by omega
      clear h1 h2 hC1 hC2 hl1 hl2
      generalize hv : cmpL x y = v at *
      have HV := Aside0.mk hv
      clear hv
      by_cases hneg : v < 0
      · have hnle : ¬ 0 ≤ v := by omega
        have HNG := Aside0.mk hneg
        clear hneg
        go_upto_region 4 with (fail)
        go_region_held3 (fun w' => w'.cell? (ad.add j) = some (.slice A1 x.length c1) ∧ w'.cell? ⟨ad.block, ad.off + (j + 1), none⟩ = some (.slice A2 y.length c2))
          (first | exact ⟨hx0, hy0⟩ | exact ⟨pw_cell_below HB2.out hx0, pw_cell_below HB2.out hy0⟩ | fail)
          (first | (go_at_call 78; (with_reducible refine (HBe.out _ (below_drew1 HB.out)).mono ?_); rintro E w2 ⟨rfl, hb⟩; have HB2 := Aside0.mk (below_then (below_drew (Below.refl wr.heap.size wr)) (below_drew (Below.refl wr.heap.size wr)).size hb); clear hb) | fail)
        go_wp2
        go_roundg (l.length - (j + 1))
        case measure => omega
        case rel =>
          refine ⟨j + 1, by omega, by first | rfl | (rw [wrap_succ (by omega) (by omega)]; rfl), by omega, ⟨below_then HB.out (HB.out).size HB2.out⟩, ⟨fun i hi hi2 => ?_⟩⟩
          by_cases e : i = j
          · subst e
            rw [(HE.out).1, (HE.out).2, HV.out]
            exact decide_eq_true HNG.out
          · exact HA.out i (by omega) hi2
      · have hnle : 0 ≤ v := by omega
        have HNG := Aside0.mk hneg
        clear hneg
        go_upto_region 4 with (fail)
        go_region_held3 (fun w' => w'.cell? (ad.add j) = some (.slice A1 x.length c1) ∧ w'.cell? ⟨ad.block, ad.off + (j + 1), none⟩ = some (.slice A2 y.length c2))
          (first | exact ⟨hx0, hy0⟩ | exact ⟨pw_cell_below HB2.out hx0, pw_cell_below HB2.out hy0⟩ | fail)
          (first | (go_at_call 78; (with_reducible refine (HBe.out _ (below_drew1 HB.out)).mono ?_); rintro E w2 ⟨rfl, hb⟩; have HB2 := Aside0.mk (below_then (below_drew (Below.refl wr.heap.size wr)) (below_drew (Below.refl wr.heap.size wr)).size hb); clear hb) | fail)
        go_wp2
        go_ret
        refine ⟨?_, below_then HB.out (HB.out).size HB2.out⟩
        rw [show upL l = false from range_false (i := j) (by omega) (by rw [(HE.out).1, (HE.out).2, HV.out]; exact decide_eq_false (by have := HNG.out; omega))]
        rfl
    · have hltz : ¬ (j : Int) + 1 < (l.length : Int) := by omega
      go_wp2
      go_ret
      refine ⟨?_, HB.out⟩
      rw [show upL l = true from range_true fun i hi => HA.out i (by omega) hi]
      rfl
end Go.Proofs.YtbmcigakiibncaaGreatDoor.H
namespace Go.Proofs.YtbmcigakiibncaaGreatDoor.H
open Go.RowKit Go.Proofs.YtbmcigakiibncaaGreatDoorW.PrintWords Go.Proofs.YtbmcigakiibncaaGreatDoorW.PrintLast Go.Proofs.YtbmcigakiibncaaGreatDoorW.PrintMore
set_option linter.unusedVariables false
theorem all_false {α : Type} {p : α → Bool} {l : List α} {x : α} (hx : x ∈ l) (h : p x = false) : l.all p = false := by
  cases e : l.all p with
  | false => rfl
  | true => rw [List.all_eq_true.1 e x hx] at h; cases h
def chkA (rk : List Int) (st : Int) (M : Mv) : Int := if auB rk st M then 0 else 10
theorem chk_false {rk : List Int} {st : Int} {M : Mv} (h : auB rk st M = false) : chkA rk st M = 10 := by unfold chkA; rw [h]; rfl
theorem chk_true {rk : List Int} {st : Int} {M : Mv} (h : auB rk st M = true) : chkA rk st M = 0 := by unfold chkA; rw [h]; rfl
theorem auB_row {rk : List Int} {st : Int} {M : Mv} {q : Nat} (hq : q < M.length) (h : mrowOk rk (M.length : Int) (M.getD q []) = false) : auB rk st M = false := by
  unfold auB
  rw [all_false (getD_memA hq) h, Bool.and_false]
theorem mrow_alts {rk : List Int} {n : Int} {row : List (List (List Nd))} {f : Nat} (hf : f < rk.length) (h : altsOk (rd rk (f : Int)) n (row.getD f []) = false) : mrowOk rk n row = false := by
  unfold mrowOk
  rw [range_false hf h, Bool.and_false]
theorem alts_list {r n : Int} {l : List (List Nd)} {j : Nat} (hj : j < l.length) (h : listOk r n (l.getD j []) = false) : altsOk r n l = false := by
  unfold altsOk
  rw [all_false (getD_memA hj) h, Bool.and_false, Bool.false_and]
theorem all_getD {α : Type} {p : List α → Bool} {l : List (List α)} (h : ∀ i, i < l.length → p (l.getD i []) = true) : l.all p = true := by
  refine List.all_eq_true.2 fun x hx => ?_
  obtain ⟨j, hj, rfl⟩ := List.getElem_of_mem hx
  have h2 := h j hj
  rwa [List.getD_eq_getElem?_getD, List.getElem?_eq_getElem hj] at h2
theorem small_of {r n : Int} {l : List Nd} (hr : r ≤ 4) (hn : n ≤ 6) (h : l.any (nbad r n) = false) : ∀ x ∈ l, smallN x := by
  intro x hx
  have h1 := List.any_eq_false.1 h x hx
  unfold nbad at h1
  simp only [Bool.or_eq_true, decide_eq_true_eq, not_or] at h1
  exact ⟨by omega, by omega, by omega, by omega⟩
set_option maxHeartbeats 8000000 in
set_option maxRecDepth 100000 in
theorem acheckG_calls (rk : List Int) (M : Mv) (st : Int) (A1 : Option Addr) (c1 : Nat) (A2 : Option Addr) (c2 : Nat) (w : World)
    (hr : Kd.C (Kd.int .i64) w A1 rk.length rk) (hc1 : rk.length ≤ c1) (hM : Kd.C kA3 w A2 M.length M) :
    Calls Tryz.prog 30 #[.agg #[.slice A1 rk.length c1, .int .i64 st, .slice A2 M.length c2]] w fun e w' => e = .returned (.int .i64 (chkA rk st M)) ∧ Below w.heap.size w w' := by
  have hmf := run_mkfun
  have HR := Aside0.mk hr
  have HM := Aside0.mk hM
  have HRA := Aside0.mk fun W (hW : Below w.heap.size w W) => ranks_calls A1 c1 rk W (Kd.C_below hr hW) hc1
  have ha := below_alloc (below_alloc (Below.refl w.heap.size w) (.cells #[.slice A1 rk.length c1, .int .i64 st, .slice A2 M.length c2] 25)) (.cells #[.int .i64 (M.length : Int)] 3)
  have hb1 := blk_alloc (blk_new w (.cells #[.slice A1 rk.length c1, .int .i64 st, .slice A2 M.length c2] 25)) (.cells #[.int .i64 (M.length : Int)] 3)
  have hb2 := blk_at2 w (.cells #[.slice A1 rk.length c1, .int .i64 st, .slice A2 M.length c2] 25) (.cells #[.int .i64 (M.length : Int)] 3)
  have HB := Aside0.mk ha
  have HB1 := Aside0.mk hb1
  have HB2 := Aside0.mk hb2
  have hk0 : (w.alloc (.cells #[.slice A1 rk.length c1, .int .i64 st, .slice A2 M.length c2] 25)).cell? ⟨w.heap.size, 2, none⟩ = some (.slice A2 M.length c2) := (blk_cell (blk_new w (.cells #[.slice A1 rk.length c1, .int .i64 st, .slice A2 M.length c2] 25)) 2).trans rfl
  clear hr hc1 hM ha hb1 hb2
  go_enter Tryz.func30, Tryz.ntmps30
  go_upto_region 2 with (fail)
  generalize ((w.alloc (.cells #[.slice A1 rk.length c1, .int .i64 st, .slice A2 M.length c2] 25)).alloc (.cells #[.int .i64 (M.length : Int)] 3)) = W1 at *
  clear hk0
  have hk0 : W1.cell? ⟨w.heap.size, 0, none⟩ = some (.slice A1 rk.length c1) := (blk_cell HB1.out 0).trans rfl
  have hk1 : W1.cell? ⟨w.heap.size, 1, none⟩ = some (.int .i64 st) := (blk_cell HB1.out 1).trans rfl
  have hk2 : W1.cell? ⟨w.heap.size + 1, 0, none⟩ = some (.int .i64 (M.length : Int)) := (blk_cell HB2.out 0).trans rfl
  go_wp2_with fail
  refine (HRA.out _ HB.out).mono ?_
  rintro E w2 ⟨rfl, hb⟩
  have n0_ := Aside0.mk (below_then HB.out (HB.out).size hb)
  have n1_ := Aside0.mk (blk_below HB1.out hb)
  have n2_ := Aside0.mk (blk_below HB2.out hb)
  clear HB HB1 HB2 hb hk0 hk1 hk2 HRA
  have hk0 : w2.cell? ⟨w.heap.size, 0, none⟩ = some (.slice A1 rk.length c1) := (blk_cell n1_.out 0).trans rfl
  have hk1 : w2.cell? ⟨w.heap.size, 1, none⟩ = some (.int .i64 st) := (blk_cell n1_.out 1).trans rfl
  have hk2 : w2.cell? ⟨w.heap.size + 1, 0, none⟩ = some (.int .i64 (M.length : Int)) := (blk_cell n2_.out 0).trans rfl
  have hk3 : w2.cell? ⟨w.heap.size, 2, none⟩ = some (.slice A2 M.length c2) := (blk_cell n1_.out 2).trans rfl
  cases hrk : ranksB rk with
  | false =>
    have HF := Aside0.mk (show auB rk st M = false by unfold auB; rw [hrk]; rfl)
    clear hrk
    go_wp2
    go_ret
    exact ⟨by rw [chk_false HF.out]; rfl, n0_.out⟩
  | true =>
  have HRK := Aside0.mk hrk
  clear hrk
  cases q1 : decide ((M.length : Int) < 1) with
  | true =>
    have HF := Aside0.mk (show auB rk st M = false by have := of_decide_eq_true q1; unfold auB; rw [decide_eq_false (by omega : ¬ 1 ≤ M.length)]; simp)
    go_wp2
    go_ret
    exact ⟨by rw [chk_false HF.out]; rfl, n0_.out⟩
  | false =>
  cases q2 : decide ((M.length : Int) > 6) with
  | true =>
    have HF := Aside0.mk (show auB rk st M = false by have := of_decide_eq_true q2; unfold auB; rw [decide_eq_false (by omega : ¬ M.length ≤ 6)]; simp)
    go_wp2
    go_ret
    exact ⟨by rw [chk_false HF.out]; rfl, n0_.out⟩
  | false =>
  cases q3 : decide (st < 0) with
  | true =>
    have HF := Aside0.mk (show auB rk st M = false by have := of_decide_eq_true q3; unfold auB; rw [decide_eq_false (by omega : ¬ 0 ≤ st)]; simp)
    go_wp2
    go_ret
    exact ⟨by rw [chk_false HF.out]; rfl, n0_.out⟩
  | false =>
  cases q4 : decide (st ≥ (M.length : Int)) with
  | true =>
    have HF := Aside0.mk (show auB rk st M = false by have := of_decide_eq_true q4; unfold auB; rw [decide_eq_false (by omega : ¬ st < (M.length : Int))]; simp)
    go_wp2
    go_ret
    exact ⟨by rw [chk_false HF.out]; rfl, n0_.out⟩
  | false =>
  have HN := Aside0.mk (show 1 ≤ M.length ∧ M.length ≤ 6 ∧ 0 ≤ st ∧ st < (M.length : Int) from by have := of_decide_eq_false q1; have := of_decide_eq_false q2; have := of_decide_eq_false q3; have := of_decide_eq_false q4; omega)
  go_wp2
  clear hk0 hk1 hk2 hk3 q1 q2 q3 q4
  go_loopg [40] M.length (fun gg v40 wi => ∃ q : Nat, q ≤ M.length ∧ M.length - q ≤ gg ∧ v40 = .int .i64 q ∧ Aside0 (Below w.heap.size w wi) ∧ Aside0 (wi.heap[w.heap.size]? = some (.cells #[.slice A1 rk.length c1, .int .i64 st, .slice A2 M.length c2] 25 (0, 0))) ∧ Aside0 (wi.heap[w.heap.size + 1]? = some (.cells #[.int .i64 (M.length : Int)] 3 (0, 0))) ∧ Aside0 (∀ i, i < q → mrowOk rk (M.length : Int) (M.getD i []) = true))
  case atStart => exact ⟨0, by omega, by omega, rfl, n0_, n1_, n2_, ⟨fun i hi => absurd hi (Nat.not_lt_zero _)⟩⟩
  case round =>
    clear n0_ n1_ n2_
    obtain ⟨q, hq, hgg, rfl, HB, HB1, HB2, HP⟩ := hrel
    by_cases hlt : q < M.length
    · have hltz : (q : Int) < (M.length : Int) := by omega
      obtain ⟨ad, A3, c3, e, hx1, hl3, hC3⟩ := at_sl HM.out q hlt
      subst e
      replace hx1 := pw_cell_below (HB.out) hx1
      have HROW := Aside0.mk (show mrowOk rk (M.length : Int) (M.getD q []) = false → auB rk st M = false from fun h => auB_row hlt h)
      have hk0 : wr.cell? ⟨w.heap.size, 0, none⟩ = some (.slice A1 rk.length c1) := (blk_cell HB1.out 0).trans rfl
      clear hl3
      generalize hrw : M.getD q [] = row at *
      have HRW := Aside0.mk hrw
      clear hrw
      by_cases hrow : row.length = rk.length
      · have HRL := Aside0.mk hrow
        rw [hrow] at hx1 hC3
        have HC3 := Aside0.mk hC3
        clear hC3 hrow
        go_wp2
        clear hk0 hx1
        go_loopg [52] rk.length (fun gg2 v52 wi => ∃ f : Nat, f ≤ rk.length ∧ rk.length - f ≤ gg2 ∧ v52 = .int .i64 f ∧ Aside0 (Below w.heap.size w wi) ∧ Aside0 (wi.heap[w.heap.size]? = some (.cells #[.slice A1 rk.length c1, .int .i64 st, .slice (some ad) M.length c2] 25 (0, 0))) ∧ Aside0 (wi.heap[w.heap.size + 1]? = some (.cells #[.int .i64 (M.length : Int)] 3 (0, 0))) ∧ Aside0 (∀ i, i < f → altsOk (rd rk (i : Int)) (M.length : Int) (row.getD i []) = true))
        case atStart => exact ⟨0, by omega, by omega, rfl, HB, HB1, HB2, ⟨fun i hi => absurd hi (Nat.not_lt_zero _)⟩⟩
        case round =>
          clear HB HB1 HB2
          obtain ⟨f, hf, hgg2, rfl, HB, HB1, HB2, HPF⟩ := hrel
          by_cases hft : f < rk.length
          · have hftz : (f : Int) < (rk.length : Int) := by omega
            obtain ⟨ad4, A4, c4, e, hx2, hl4, hC4⟩ := at_sl HC3.out f hft
            subst e
            replace hx2 := pw_cell_below (HB.out) hx2
            have HC4 := Aside0.mk hC4
            have HALT := Aside0.mk (show altsOk (rd rk (f : Int)) (M.length : Int) (row.getD f []) = false → auB rk st M = false from fun h => (HROW.out) (mrow_alts hft h))
            have HRKF := Aside0.mk (rank_le HRK.out hft)
            clear hC4 hl4
            generalize hal : row.getD f [] = alts at *
            have HAL := Aside0.mk hal
            clear hal
            have ha := below_alloc (Below.refl wr.heap.size wr) (.cells #[.int .i64 (f : Int)] 3)
            have n0_ := Aside0.mk (below_then HB.out (HB.out).size ha)
            have n1_ := Aside0.mk (blk_below HB1.out ha)
            have n2_ := Aside0.mk (blk_below HB2.out ha)
            have n3_ := Aside0.mk (blk_new wr (.cells #[.int .i64 (f : Int)] 3))
            clear ha HB HB1 HB2
            go_upto_region 12 with (fail)
            clear hx2
            generalize (wr.alloc (.cells #[.int .i64 (f : Int)] 3)) = w5 at *
            generalize wr.heap.size = b6 at *
            by_cases h12 : (alts.length : Int) > 12
            · have HF := Aside0.mk (HALT.out (by unfold altsOk; rw [decide_eq_false (by omega : ¬ alts.length ≤ 12)]; rfl))
              go_wp2
              go_ret
              exact ⟨by rw [chk_false HF.out]; rfl, n0_.out⟩
            have H12 := Aside0.mk (show alts.length ≤ 12 by omega)
            go_wp2
            clear h12
            go_loopg [62] alts.length (fun gg3 v62 wi => ∃ j : Nat, j ≤ alts.length ∧ alts.length - j ≤ gg3 ∧ v62 = .int .i64 j ∧ Aside0 (Below w.heap.size w wi) ∧ Aside0 (wi.heap[w.heap.size]? = some (.cells #[.slice A1 rk.length c1, .int .i64 st, .slice (some ad) M.length c2] 25 (0, 0))) ∧ Aside0 (wi.heap[w.heap.size + 1]? = some (.cells #[.int .i64 (M.length : Int)] 3 (0, 0))) ∧ Aside0 (wi.heap[b6]? = some (.cells #[.int .i64 (f : Int)] 3 (0, 0))) ∧ Aside0 (∀ i, i < j → listOk (rd rk (f : Int)) (M.length : Int) (alts.getD i []) = true))
            case atStart => exact ⟨0, by omega, by omega, rfl, n0_, n1_, n2_, n3_, ⟨fun i hi => absurd hi (Nat.not_lt_zero _)⟩⟩
            case round =>
              clear n0_ n1_ n2_ n3_
              obtain ⟨j, hj, hgg3, rfl, HB, HB1, HB2, HB3, HPJ⟩ := hrel
              by_cases hjt : j < alts.length
              · have hjtz : (j : Int) < (alts.length : Int) := by omega
                obtain ⟨ad5, A5, c5, e, hx5, hl5, hC5⟩ := at_sl HC4.out j hjt
                subst e
                replace hx5 := pw_cell_below (HB.out) hx5
                have HLST := Aside0.mk (show listOk (rd rk (f : Int)) (M.length : Int) (alts.getD j []) = false → auB rk st M = false from fun h => (HALT.out) (alts_list hjt h))
                generalize hle : alts.getD j [] = l at *
                have HLE := Aside0.mk hle
                clear hle hl5
                cases q5 : decide ((l.length : Int) > 24) with
                | true =>
                  have HF := Aside0.mk (HLST.out (by have := of_decide_eq_true q5; unfold listOk; rw [decide_eq_false (by omega : ¬ l.length ≤ 24)]; rfl))
                  clear hC5
                  go_wp2
                  go_ret
                  exact ⟨by rw [chk_false HF.out]; rfl, HB.out⟩
                | false =>
                have H24 := Aside0.mk (show l.length ≤ 24 by have := of_decide_eq_false q5; omega)
                have HCN := Aside0.mk (containsN_calls A5 c5 l 73 #[.pointer (some ⟨w.heap.size, 0, none⟩), .pointer (some ⟨b6, 0, none⟩), .pointer (some ⟨w.heap.size + 1, 0, none⟩)] (fun _ => True) (nbad (rd rk (f : Int)) (M.length : Int)) wr (Kd.C_below hC5 HB.out) (fun _ _ => trivial) (badG_pred f M.length w.heap.size b6 (w.heap.size + 1) rk A1 c1 (.int .i64 st) (.slice (some ad) M.length c2) wr HB1.out HB3.out HB2.out (Kd.C_below HR.out HB.out) hft) (fun _ _ => rfl))
                cases hany : l.any (nbad (rd rk (f : Int)) (M.length : Int)) with
                | true =>
                  rw [hany] at HCN
                  have HF := Aside0.mk (HLST.out (by unfold listOk; rw [hany]; simp))
                  clear hC5 hany
                  go_wp2_with fail
                  refine (HCN.out).mono ?_
                  rintro E w6 ⟨rfl, hb⟩
                  have n0_ := Aside0.mk (below_then HB.out (HB.out).size hb)
                  clear hb HCN hx5
                  go_wp2
                  go_ret
                  exact ⟨by rw [chk_false HF.out]; rfl, n0_.out⟩
                | false =>
                rw [hany] at HCN
                have hsm := small_of (l := l) (show rd rk (f : Int) ≤ 4 from (HRKF.out).2) (show (M.length : Int) ≤ 6 by have := HN.out; omega) hany
                have HRI := Aside0.mk fun W (hW : Below w.heap.size w W) => risingG_calls A5 c5 l W (Kd.C_below hC5 hW) H24.out hsm
                have HAN := Aside0.mk hany
                clear hC5 hany hsm
                go_wp2_with fail
                refine (HCN.out).mono ?_
                rintro E w6 ⟨rfl, hb⟩
                have n0_ := Aside0.mk (below_then HB.out (HB.out).size hb)
                have n1_ := Aside0.mk (blk_below HB1.out hb)
                have n2_ := Aside0.mk (blk_below HB2.out hb)
                have n3_ := Aside0.mk (blk_below HB3.out hb)
                clear HB HB1 HB2 HB3 hb HCN hx5
                go_wp2_with fail
                refine (HRI.out _ n0_.out).mono ?_
                rintro E w7 ⟨rfl, hb⟩
                have HB := Aside0.mk (below_then n0_.out (n0_.out).size hb)
                have HB1 := Aside0.mk (blk_below n1_.out hb)
                have HB2 := Aside0.mk (blk_below n2_.out hb)
                have HB3 := Aside0.mk (blk_below n3_.out hb)
                clear n0_ n1_ n2_ n3_ hb HRI q5
                cases hup : upN l with
                | false =>
                  have HF := Aside0.mk (HLST.out (by unfold listOk; rw [hup, Bool.and_false]))
                  clear hup
                  go_wp2
                  go_ret
                  exact ⟨by rw [chk_false HF.out]; rfl, HB.out⟩
                | true =>
                  have HOK := Aside0.mk (show listOk (rd rk (f : Int)) (M.length : Int) l = true by unfold listOk; rw [decide_eq_true H24.out, HAN.out, hup]; rfl)
                  clear hup
                  go_wp2
                  go_roundg (alts.length - (j + 1))
                  case measure => omega
                  case rel =>
                    refine ⟨j + 1, by omega, by omega, by rw [wrap_succ (by omega) (by have := H12.out; omega)]; rfl, HB, HB1, HB2, HB3, ⟨fun i hi => ?_⟩⟩
                    by_cases e : i = j
                    · subst e
                      rw [HLE.out]; exact HOK.out
                    · exact HPJ.out i (by omega)
              · have hjtz : ¬ (j : Int) < (alts.length : Int) := by omega
                have HLA := Aside0.mk (show ∀ i, i < alts.length → listOk (rd rk (f : Int)) (M.length : Int) (alts.getD i []) = true from fun i hi => HPJ.out i (by omega))
                have HALL := Aside0.mk (show alts.all (listOk (rd rk (f : Int)) (M.length : Int)) = true from all_getD HLA.out)
                have HSM := Aside0.mk (show ∀ y ∈ alts, y.length ≤ 24 ∧ ∀ x ∈ y, smallN x from fun y hy => by
                  have h := List.all_eq_true.1 HALL.out y hy
                  unfold listOk at h
                  simp only [Bool.and_eq_true, decide_eq_true_eq, Bool.not_eq_true'] at h
                  exact ⟨h.1.1, small_of (show rd rk (f : Int) ≤ 4 from (HRKF.out).2) (show (M.length : Int) ≤ 6 by have := HN.out; omega) h.1.2⟩)
                have HRL2 := Aside0.mk fun W (hW : Below w.heap.size w W) => risingLG_calls A4 c4 alts W (Kd.C_below HC4.out hW) H12.out HSM.out
                go_wp2_with fail
                refine (HRL2.out _ HB.out).mono ?_
                rintro E w7 ⟨rfl, hb⟩
                have n0_ := Aside0.mk (below_then HB.out (HB.out).size hb)
                have n1_ := Aside0.mk (blk_below HB1.out hb)
                have n2_ := Aside0.mk (blk_below HB2.out hb)
                clear HB HB1 HB2 HB3 hb HRL2
                cases hup : upL alts with
                | false =>
                  have HF := Aside0.mk (HALT.out (by unfold altsOk; rw [hup, Bool.and_false]))
                  clear hup
                  go_wp2
                  go_ret
                  exact ⟨by rw [chk_false HF.out]; rfl, n0_.out⟩
                | true =>
                  have HOK := Aside0.mk (show altsOk (rd rk (f : Int)) (M.length : Int) alts = true by unfold altsOk; rw [decide_eq_true H12.out, HALL.out, hup]; rfl)
                  clear hup
                  go_wp2
                  go_roundg (rk.length - (f + 1))
                  case measure => omega
                  case rel =>
                    refine ⟨f + 1, by omega, by omega, by rw [wrap_succ (by omega) (by have := (HR.out).2.1; omega)]; rfl, n0_, n1_, n2_, ⟨fun i hi => ?_⟩⟩
                    by_cases e : i = f
                    · subst e
                      rw [HAL.out]; exact HOK.out
                    · exact HPF.out i (by omega)
          · have hftz : ¬ (f : Int) < (rk.length : Int) := by omega
            have HOK := Aside0.mk (show mrowOk rk (M.length : Int) row = true by unfold mrowOk; rw [decide_eq_true HRL.out, range_true fun i hi => HPF.out i (by omega)]; rfl)
            go_wp2
            go_roundg (M.length - (q + 1))
            case measure => omega
            case rel =>
              refine ⟨q + 1, by omega, by omega, by rw [wrap_succ (by omega) (by have := HN.out; omega)]; rfl, HB, HB1, HB2, ⟨fun i hi => ?_⟩⟩
              by_cases e : i = q
              · subst e
                rw [HRW.out]; exact HOK.out
              · exact HP.out i (by omega)
      · have d1 : ((row.length : Int) == (rk.length : Int)) = false := beq_eq_false_iff_ne.2 (by omega)
        have d2 : ((row.length : Int) != (rk.length : Int)) = true := bne_iff_ne.2 (by omega)
        have HF := Aside0.mk (HROW.out (by unfold mrowOk; rw [decide_eq_false hrow]; rfl))
        clear hC3 hrow
        go_wp2
        go_ret
        exact ⟨by rw [chk_false HF.out]; rfl, HB.out⟩
    · have hltz : ¬ (q : Int) < (M.length : Int) := by omega
      have HT := Aside0.mk (show auB rk st M = true by
        have := HN.out
        unfold auB
        rw [HRK.out, decide_eq_true (by omega : 1 ≤ M.length), decide_eq_true (by omega : M.length ≤ 6), decide_eq_true (by omega : 0 ≤ st), decide_eq_true (by omega : st < (M.length : Int)), all_getD fun i hi => HP.out i (by omega)]
        rfl)
      go_wp2
      go_ret
      exact ⟨by rw [chk_true HT.out]; rfl, HB.out⟩
end Go.Proofs.YtbmcigakiibncaaGreatDoor.H
namespace Go.Proofs.YtbmcigakiibncaaGreatDoor.H
open Go.RowKit Go.Proofs.YtbmcigakiibncaaGreatDoorW.PrintWords Go.Proofs.YtbmcigakiibncaaGreatDoorW.PrintLast Go.Proofs.YtbmcigakiibncaaGreatDoorW.PrintMore
open Go.Proofs.YtbmcigakiibncaaGreatDoor.Q (S28 k28 rd_T28 z28 at_T28)
attribute [local go_sem] max2_int min2_int max_two min_two max_three min_three max_four min_four
set_option linter.unusedVariables false
def MeasG (t : S28) (p : Nat) (left : Int) (W : World) (E : Ending) (W' : World) : Prop := ∃ d lv : Int, E = .returned (.int .i64 d) ∧ W'.heap[p]? = some (.cells #[.int .i64 lv] 3 (0, 0)) ∧ ((nodes t : Int) ≤ left → d = (depth t : Int) ∧ lv = left - nodes t) ∧ (¬ (nodes t : Int) ≤ left → lv < 0) ∧ -1 ≤ lv ∧ W.grownBy W' (some p)
set_option maxHeartbeats 4000000 in
set_option maxRecDepth 100000 in
theorem measureG_calls (w0 : World) (p : Nat) (hp : w0.heap.size ≤ p) (N : Nat) : ∀ (t : S28), nodes t ≤ N → ∀ (A : Option Addr) (c : Nat) (left : Int) (W : World), Kd.C k28 w0 A t.f1.length t.f1 → t.f1.length ≤ c → Below w0.heap.size w0 W → W.heap[p]? = some (.cells #[.int .i64 left] 3 (0, 0)) → 0 ≤ left → left ≤ 20000 →
    Calls Tryz.prog 130 #[.agg #[.int .i64 t.f0, .slice A t.f1.length c], .pointer (some ⟨p, 0, none⟩)] W (MeasG t p left W) := by
  induction N with
  | zero => intro t h; have := nodes_pos t; omega
  | succ N ih =>
    intro t hN A c left W hC hc hB hP hl0 hl2
    obtain ⟨s, l⟩ := t
    rw [nodes] at hN
    have hpW := blk_lt hP
    have HLEN := Aside0.mk hC.2.1
    have HC := Aside0.mk hC
    have IH := Aside0.mk ih
    have HG1 := Aside0.mk (World.grownBy_alloc W (.cells #[.int .i64 s, .slice A l.length c] 28) (some p))
    have HP1 := Aside0.mk (blk_alloc hP (.cells #[.int .i64 s, .slice A l.length c] 28))
    have HX1 := Aside0.mk (blk_new W (.cells #[.int .i64 s, .slice A l.length c] 28))
    have HB0 := Aside0.mk hB
    have HD := Aside0.mk (show nodesL l ≤ N ∧ 0 ≤ left ∧ left ≤ 20000 from ⟨by omega, hl0, hl2⟩)
    have hq0 : (W.alloc (.cells #[.int .i64 s, .slice A l.length c] 28)).cell? ⟨p, 0, none⟩ = some (.int .i64 left) := (blk_cell HP1.out 0).trans rfl
    have hq1 : (W.alloc (.cells #[.int .i64 s, .slice A l.length c] 28)).frozen? ⟨p, 0, none⟩ = false := blk_frozen HP1.out 0
    clear hC ih hP hB hN hl0 hl2
    go_enter Tryz.func130, Tryz.ntmps130
    go_upto_region 1 with (fail)
    generalize (W.alloc (.cells #[.int .i64 s, .slice A l.length c] 28)) = W1 at *
    go_upto_region 2 with (fail)
    rw [wr_id (x := left - 1) (by have := HD.out; omega) (by have := HD.out; omega)]
    have hnp : W.heap.size ≠ p := by omega
    have HG2 := Aside0.mk (gtrans HG1.out (grown_setCell W1 ⟨p, 0, none⟩ (.int .i64 (left - 1))))
    have HP2 := Aside0.mk (show (W1.setCell ⟨p, 0, none⟩ (.int .i64 (left - 1))).heap[p]? = some (.cells #[.int .i64 (left - 1)] 3 (0, 0)) from blk_set HP1.out 0 (.int .i64 (left - 1)))
    have HX2 := Aside0.mk (blk_far (p := ⟨p, 0, none⟩) HX1.out hnp (.int .i64 (left - 1)))
    clear hq0 hq1 HG1 HP1 HX1
    generalize (W1.setCell ⟨p, 0, none⟩ (.int .i64 (left - 1))) = W2 at *
    have hb0 : W2.cell? ⟨W.heap.size, 0, none⟩ = some (.int .i64 s) := (blk_cell HX2.out 0).trans rfl
    have hb1 : W2.cell? ⟨W.heap.size, 1, none⟩ = some (.slice A l.length c) := (blk_cell HX2.out 1).trans rfl
    go_wp2
    clear hb0 hb1
    go_loopg [5, 16] l.length (fun gg v5 v16 wi => ∃ (m lv : Int) (j : Nat), j ≤ l.length ∧ l.length - j ≤ gg ∧ v5 = .int .i64 m ∧ v16 = .int .i64 j ∧ Aside0 (W.grownBy wi (some p)) ∧ Aside0 (wi.heap[p]? = some (.cells #[.int .i64 lv] 3 (0, 0))) ∧
      Aside0 ((1 + (nodesL (l.take j) : Int) ≤ left → m = (depthL (l.take j) : Int) ∧ lv = left - 1 - nodesL (l.take j)) ∧ (¬ 1 + (nodesL (l.take j) : Int) ≤ left → lv < 0) ∧ -1 ≤ lv ∧ lv ≤ 20000))
    case atStart => exact ⟨0, left - 1, 0, by omega, by omega, rfl, rfl, HG2, HP2, ⟨fun _ => ⟨by rw [List.take_zero, depthL]; rfl, by rw [List.take_zero, nodesL]; simp⟩, fun h => by rw [List.take_zero, nodesL] at h; simp at h; omega, by have := HD.out; omega, by have := HD.out; omega⟩⟩
    case round =>
      clear HG2 HP2 HX2
      obtain ⟨m, lv, j, hj, hgg, rfl, rfl, HG, HP, HM⟩ := hrel
      by_cases hlt : j < l.length
      · have hltz : (j : Int) < (l.length : Int) := by omega
        have HBr := Aside0.mk (pw_below_grown HB0.out (some p) (HB0.out).size HG.out (fun k hk => by cases hk; exact hp))
        obtain ⟨ad, A1, c1, e, hx0, hx1, hl1, hC1⟩ := at_T28 HC.out (j : Int) (by omega) hltz
        subst e
        rw [rdT_at hlt] at hx0 hx1 hl1 hC1
        rw [Int.toNat_natCast] at hx0 hx1
        replace hx0 := ((HBr.out).cell (World.block_lt_of_cell? w0 _ hx0)).trans hx0
        replace hx1 := ((HBr.out).cell (World.block_lt_of_cell? w0 _ hx1)).trans hx1
        have HJ := Aside0.mk (show nodesL (l.take (j + 1)) = nodesL (l.take j) + nodes l[j] ∧ depthL (l.take (j + 1)) = max (depthL (l.take j)) (depth l[j]) ∧ nodesL (l.take (j + 1)) ≤ nodesL l ∧ nodesL (l.take j) ≤ nodesL l ∧ 1 ≤ nodes l[j] from ⟨by rw [takeT hlt, nodesL_snoc], by rw [takeT hlt, depthL_snoc], nodesL_take l _, nodesL_take l _, nodes_pos _⟩)
        generalize l[j] = u at *
        have HC1 := Aside0.mk hC1
        have HL1 := Aside0.mk hl1
        clear hC1 hl1
        go_upto_region 6 with (fail)
        have HG5 := Aside0.mk (gtrans HG.out (World.grownBy_alloc wr (.cells #[.int .i64 u.f0, .slice A1 u.f1.length c1] 28) (some p)))
        have HP5 := Aside0.mk (blk_alloc HP.out (.cells #[.int .i64 u.f0, .slice A1 u.f1.length c1] 28))
        have HX5 := Aside0.mk (blk_new wr (.cells #[.int .i64 u.f0, .slice A1 u.f1.length c1] 28))
        clear HG HP hx0 hx1
        generalize (wr.alloc (.cells #[.int .i64 u.f0, .slice A1 u.f1.length c1] 28)) = w5 at *
        generalize wr.heap.size = b7 at *
        have hb0 : w5.cell? ⟨b7, 0, none⟩ = some (.int .i64 u.f0) := (blk_cell HX5.out 0).trans rfl
        have hb1 : w5.cell? ⟨b7, 1, none⟩ = some (.slice A1 u.f1.length c1) := (blk_cell HX5.out 1).trans rfl
        have hq0 : w5.cell? ⟨p, 0, none⟩ = some (.int .i64 lv) := (blk_cell HP5.out 0).trans rfl
        have HB5 := Aside0.mk (pw_below_grown HB0.out (some p) (HB0.out).size HG5.out (fun k hk => by cases hk; exact hp))
        by_cases hneg : lv < 0
        · have HNG := Aside0.mk hneg
          go_wp2
          go_ret
          refine ⟨0, lv, rfl, HP5.out, fun h => ?_, fun _ => HNG.out, (HM.out).2.2.1, HG5.out⟩
          rw [nodes] at h
          have := HNG.out
          have h1 := HM.out
          have h2 := HJ.out
          exact absurd (h1.1 (by omega)).2 (by omega)
        · have HNG := Aside0.mk hneg
          go_wp2_with fail
          refine (IH.out u (by have := HD.out; have := HJ.out; omega) A1 c1 lv w5 HC1.out HL1.out HB5.out HP5.out (by have := HNG.out; omega) (HM.out).2.2.2).mono ?_
          rintro E w6 ⟨d, lv2, rfl, hP6, hx1, hx2, hx3, hG6⟩
          have HP6 := Aside0.mk hP6
          have HG6 := Aside0.mk (gtrans HG5.out hG6)
          have HXX := Aside0.mk (And.intro hx1 (And.intro hx2 hx3))
          clear hP6 hG6 hb0 hb1 hq0 HP5 HG5 HX5 HB5 hx1 hx2 hx3 hneg
          have HR := Aside0.mk (show ∀ v : Int, v = (if m < d then d else m) → (1 + (nodesL (l.take (j + 1)) : Int) ≤ left → v = (depthL (l.take (j + 1)) : Int) ∧ lv2 = left - 1 - nodesL (l.take (j + 1))) ∧ (¬ 1 + (nodesL (l.take (j + 1)) : Int) ≤ left → lv2 < 0) ∧ -1 ≤ lv2 ∧ lv2 ≤ 20000 from fun v hv => by
            obtain ⟨x1, x2, x3⟩ := HXX.out
            obtain ⟨y1, y2, y3, y4⟩ := HM.out
            obtain ⟨z1, z2, z3, z4, z5⟩ := HJ.out
            have hn := HNG.out
            have hd := HD.out
            have hex : 1 + (nodesL (l.take j) : Int) ≤ left := Classical.byContradiction fun h => by have := y2 (by omega); omega
            obtain ⟨e1, e2⟩ := y1 hex
            refine ⟨fun h => ?_, fun h => x2 (by omega), x3, ?_⟩
            · obtain ⟨f1, f2⟩ := x1 (by omega)
              refine ⟨?_, by omega⟩
              rw [hv, z2, e1, f1]
              split <;> omega
            · by_cases hc : (nodes u : Int) ≤ lv
              · have := (x1 hc).2; omega
              · have := x2 hc; omega)
          by_cases hmx : m < d
          · go_wp2
            go_roundg (l.length - (j + 1))
            case measure => omega
            case rel => exact ⟨d, lv2, j + 1, by omega, by omega, rfl, by rw [wrap_succ (by omega) (by have := HLEN.out; omega)]; rfl, HG6, HP6, ⟨HR.out d (by rw [if_pos hmx])⟩⟩
          · go_wp2
            go_roundg (l.length - (j + 1))
            case measure => omega
            case rel => exact ⟨m, lv2, j + 1, by omega, by omega, rfl, by rw [wrap_succ (by omega) (by have := HLEN.out; omega)]; rfl, HG6, HP6, ⟨HR.out m (by rw [if_neg (by omega)])⟩⟩
      · have hltz : ¬ (j : Int) < (l.length : Int) := by omega
        have hje : j = l.length := by omega
        have hm := depthL_le l
        subst hje
        rw [List.take_length] at HM
        go_wp2
        go_ret
        refine ⟨wrap64 (m + 1), lv, rfl, HP.out, fun h => ?_, fun h => ?_, (HM.out).2.2.1, HG.out⟩
        · rw [nodes] at h ⊢
          rw [depth]
          obtain ⟨e1, e2⟩ := (HM.out).1 (by omega)
          have := HD.out
          rw [e1, wr_id (by omega) (by omega)]
          exact ⟨by omega, by omega⟩
        · rw [nodes] at h
          exact (HM.out).2.1 (by omega)
def sizeV (t : S28) : Int × Int := if nodes t ≤ 20000 then ((nodes t : Int), (depth t : Int)) else (20001, 0)
set_option maxHeartbeats 2000000 in
theorem sizeG_calls (t : S28) (A : Option Addr) (c : Nat) (w : World) (hC : Kd.C k28 w A t.f1.length t.f1) (hc : t.f1.length ≤ c) :
    Calls Tryz.prog 110 #[.agg #[.int .i64 t.f0, .slice A t.f1.length c]] w fun E w' => E = .returned (.tuple #[.int .i64 (sizeV t).1, .int .i64 (sizeV t).2]) ∧ Below w.heap.size w w' := by
  have HM := Aside0.mk (measureG_calls w (w.heap.size + 1) (Nat.le_succ _) _ t (Nat.le_refl _) A c 20000 ((w.alloc (.cells #[.int .i64 t.f0, .slice A t.f1.length c] 28)).alloc (.cells #[.int .i64 20000] 3)) hC hc (below_alloc (below_alloc (Below.refl _ _) _) _) (blk_at2 w _ _) (by omega) (by omega))
  have HB := Aside0.mk (show Below w.heap.size w ((w.alloc (.cells #[.int .i64 t.f0, .slice A t.f1.length c] 28)).alloc (.cells #[.int .i64 20000] 3)) from below_alloc (below_alloc (Below.refl _ _) _) _)
  have HX := Aside0.mk (blk_alloc (blk_new w (.cells #[.int .i64 t.f0, .slice A t.f1.length c] 28)) (.cells #[.int .i64 20000] 3))
  clear hC hc
  go_enter Tryz.func110, Tryz.ntmps110
  go_upto_region 2 with (fail)
  generalize ((w.alloc (.cells #[.int .i64 t.f0, .slice A t.f1.length c] 28)).alloc (.cells #[.int .i64 20000] 3)) = W1 at *
  have hb0 : W1.cell? ⟨w.heap.size, 0, none⟩ = some (.int .i64 t.f0) := (blk_cell HX.out 0).trans rfl
  have hb1 : W1.cell? ⟨w.heap.size, 1, none⟩ = some (.slice A t.f1.length c) := (blk_cell HX.out 1).trans rfl
  go_wp2_with fail
  refine (HM.out).mono ?_
  rintro E w2 ⟨d, lv, rfl, hP, hx1, hx2, hx3, hG⟩
  have HB2 := Aside0.mk (below_of_grown HB.out (Nat.le_succ _) hG)
  have hq : w2.cell? ⟨w.heap.size + 1, 0, none⟩ = some (.int .i64 lv) := (blk_cell hP 0).trans rfl
  have HXX := Aside0.mk (And.intro hx1 (And.intro hx2 hx3))
  clear hG hP hb0 hb1 HM HX HB hx1 hx2 hx3
  by_cases hn : nodes t ≤ 20000
  · obtain ⟨rfl, e2⟩ := (HXX.out).1 (by omega)
    have hneg : ¬ lv < 0 := by omega
    have HE := Aside0.mk (show sizeV t = ((nodes t : Int), (depth t : Int)) from if_pos hn)
    have HL := Aside0.mk (show 20000 - lv = (nodes t : Int) by omega)
    have HLV := Aside0.mk (show 0 ≤ lv ∧ lv ≤ 20000 by omega)
    clear e2 hn
    go_wp2
    go_ret2
    refine ⟨?_, HB2.out⟩
    rw [HE.out]
    first
      | (rw [HL.out]; rfl)
      | (rw [wr_id (x := 20000 - lv) (by have := HLV.out; omega) (by have := HLV.out; omega), HL.out]; rfl)
  · have hneg : lv < 0 := (HXX.out).2.1 (by omega)
    have HE := Aside0.mk (show sizeV t = (20001, 0) from if_neg hn)
    clear hn
    go_wp2
    go_ret2
    exact ⟨by rw [HE.out]; rfl, HB2.out⟩
def fitsB (t : S28) : Bool := decide (nodes t ≤ 20000) && decide (depth t ≤ 200)
theorem fitsG_calls (t : S28) (A : Option Addr) (c : Nat) (w : World) (hC : Kd.C k28 w A t.f1.length t.f1) (hc : t.f1.length ≤ c) :
    Calls Tryz.prog 88 #[.agg #[.int .i64 t.f0, .slice A t.f1.length c]] w fun E w' => E = .returned (.bool (fitsB t)) ∧ Below w.heap.size w w' := by
  have HS := Aside0.mk fun W (hW : Below w.heap.size w W) => sizeG_calls t A c W (Kd.C_below hC hW) hc
  have HE := Aside0.mk (show (decide ((sizeV t).1 ≤ 20000) && decide ((sizeV t).2 ≤ 200)) = fitsB t by
    unfold sizeV fitsB
    by_cases h : nodes t ≤ 20000
    · rw [if_pos h, decide_eq_true h, decide_eq_true (show ((nodes t : Int), (depth t : Int)).1 ≤ 20000 by simp; omega)]
      by_cases h2 : depth t ≤ 200
      · rw [decide_eq_true h2, decide_eq_true (show ((nodes t : Int), (depth t : Int)).2 ≤ 200 by simp; omega)]
      · rw [decide_eq_false h2, decide_eq_false (show ¬ ((nodes t : Int), (depth t : Int)).2 ≤ 200 by simp; omega)]
    · rw [if_neg h, decide_eq_false h]; rfl)
  generalize (sizeV t).1 = a at *
  generalize (sizeV t).2 = b at *
  clear hC hc
  cases q1 : decide (a ≤ 20000) with
  | false =>
    rw [q1] at HE
    go_enter Tryz.func88, Tryz.ntmps88
    go_wp2_with fail
    refine (HS.out _ (below_alloc (Below.refl _ _) _)).mono ?_
    rintro E w2 ⟨rfl, hb⟩
    have HB2 := Aside0.mk (below_then (below_alloc (Below.refl w.heap.size w) (.cells #[.int .i64 t.f0, .slice A t.f1.length c] 28)) (by simp) hb)
    clear hb HS
    go_wp2
    go_ret
    exact ⟨by rw [← HE.out]; rfl, HB2.out⟩
  | true =>
    rw [q1, Bool.true_and] at HE
    go_enter Tryz.func88, Tryz.ntmps88
    go_wp2_with fail
    refine (HS.out _ (below_alloc (Below.refl _ _) _)).mono ?_
    rintro E w2 ⟨rfl, hb⟩
    have HB2 := Aside0.mk (below_then (below_alloc (Below.refl w.heap.size w) (.cells #[.int .i64 t.f0, .slice A t.f1.length c] 28)) (by simp) hb)
    clear hb HS
    go_wp2
    go_ret
    exact ⟨by rw [← HE.out]; rfl, HB2.out⟩
def tcheckV (rk : List Int) (t : S28) : Int := if ranksB rk then (if treeOk rk t then 0 else 9) else 2
set_option maxHeartbeats 1000000 in
theorem tcheckG_calls (rk : List Int) (t : S28) (A1 : Option Addr) (c1 : Nat) (A : Option Addr) (c : Nat) (w : World) (hr : Kd.C (Kd.int .i64) w A1 rk.length rk) (hc1 : rk.length ≤ c1) (hC : Kd.C k28 w A t.f1.length t.f1) (hc : t.f1.length ≤ c) :
    Calls Tryz.prog 40 #[.slice A1 rk.length c1, .agg #[.int .i64 t.f0, .slice A t.f1.length c]] w fun E w' => E = .returned (.int .i64 (tcheckV rk t)) ∧ Below w.heap.size w w' := by
  have HR := Aside0.mk fun W (hW : Below w.heap.size w W) => ranks_calls A1 c1 rk W (Kd.C_below hr hW) hc1
  have HF := Aside0.mk fun W (hW : Below w.heap.size w W) => fitsG_calls t A c W (Kd.C_below hC hW) hc
  have HO := Aside0.mk (show fitsB t = true → ∀ W, Below w.heap.size w W → Calls Tryz.prog 89 #[.slice A1 rk.length c1, .agg #[.int .i64 t.f0, .slice A t.f1.length c]] W fun E w' => E = .returned (.bool (overB rk t)) ∧ Below W.heap.size W w' from fun hf W hW => by
    simp only [fitsB, Bool.and_eq_true, decide_eq_true_eq] at hf
    obtain ⟨k, hk⟩ := (tover_ev rk _ t (Nat.le_refl _) hf.1).rounds
    exact Q.tree_over.calls k A1 c1 rk t.f0 A c t.f1 _ W (Kd.C_below hr hW) hc1 (Kd.C_below hC hW) hc hk)
  have HTO := Aside0.mk (show treeOk rk t = (fitsB t && overB rk t) from rfl)
  clear hr hc1 hC hc
  have HX := Aside0.mk (blk_new w (.cells #[.int .i64 t.f0, .slice A t.f1.length c] 28))
  have HB := Aside0.mk (below_alloc (Below.refl w.heap.size w) (.cells #[.int .i64 t.f0, .slice A t.f1.length c] 28))
  go_enter Tryz.func40, Tryz.ntmps40
  go_upto_region 1 with (fail)
  generalize (w.alloc (.cells #[.int .i64 t.f0, .slice A t.f1.length c] 28)) = W1 at *
  go_wp2_with fail
  refine (HR.out _ HB.out).mono ?_
  rintro E w2 ⟨rfl, hb⟩
  have HB2 := Aside0.mk (below_then HB.out (HB.out).size hb)
  have HX2 := Aside0.mk (blk_below HX.out hb)
  clear hb HB HX HR
  cases hrk : ranksB rk with
  | false =>
    have HV := Aside0.mk (show tcheckV rk t = 2 by unfold tcheckV; rw [hrk]; rfl)
    clear hrk
    go_wp2
    go_ret
    exact ⟨by rw [HV.out]; rfl, HB2.out⟩
  | true =>
  have HRK := Aside0.mk hrk
  clear hrk
  have hb0 : w2.cell? ⟨w.heap.size, 0, none⟩ = some (.int .i64 t.f0) := (blk_cell HX2.out 0).trans rfl
  have hb1 : w2.cell? ⟨w.heap.size, 1, none⟩ = some (.slice A t.f1.length c) := (blk_cell HX2.out 1).trans rfl
  go_wp2_with fail
  refine (HF.out _ HB2.out).mono ?_
  rintro E w3 ⟨rfl, hb⟩
  have HB3 := Aside0.mk (below_then HB2.out (HB2.out).size hb)
  have HX3 := Aside0.mk (blk_below HX2.out hb)
  clear hb HB2 HX2 HF hb0 hb1
  cases hf : fitsB t with
  | false =>
    have HV := Aside0.mk (show tcheckV rk t = 9 by unfold tcheckV; rw [HRK.out, HTO.out, hf]; rfl)
    clear hf
    go_wp2
    go_ret
    exact ⟨by rw [HV.out]; rfl, HB3.out⟩
  | true =>
  have HO2 := Aside0.mk (HO.out hf)
  have HFT := Aside0.mk hf
  clear hf HO
  have hb0 : w3.cell? ⟨w.heap.size, 0, none⟩ = some (.int .i64 t.f0) := (blk_cell HX3.out 0).trans rfl
  have hb1 : w3.cell? ⟨w.heap.size, 1, none⟩ = some (.slice A t.f1.length c) := (blk_cell HX3.out 1).trans rfl
  go_wp2_with fail
  refine (HO2.out _ HB3.out).mono ?_
  rintro E w4 ⟨rfl, hb⟩
  have HB4 := Aside0.mk (below_then HB3.out (HB3.out).size hb)
  clear hb HB3 HX3 HO2 hb0 hb1
  cases ho : overB rk t with
  | false =>
    have HV := Aside0.mk (show tcheckV rk t = 9 by unfold tcheckV; rw [HRK.out, HTO.out, ho, Bool.and_false]; rfl)
    clear ho
    go_wp2
    go_ret
    exact ⟨by rw [HV.out]; rfl, HB4.out⟩
  | true =>
    have HV := Aside0.mk (show tcheckV rk t = 0 by unfold tcheckV; rw [HRK.out, HTO.out, ho, HFT.out]; rfl)
    clear ho
    go_wp2
    go_ret
    exact ⟨by rw [HV.out]; rfl, HB4.out⟩
end Go.Proofs.YtbmcigakiibncaaGreatDoor.H
namespace Go.Proofs.YtbmcigakiibncaaGreatDoor.H
open Go.RowKit Go.Proofs.YtbmcigakiibncaaGreatDoorW.PrintWords Go.Proofs.YtbmcigakiibncaaGreatDoorW.PrintLast Go.Proofs.YtbmcigakiibncaaGreatDoorW.PrintMore
open Go.Proofs.YtbmcigakiibncaaGreatDoor.Q (S28 k28 rd_T28 z28 at_T28)
set_option linter.unusedVariables false
mutual
def accG (M : Mv) (z : Bool) : S28 → Nat → Bool
  | ⟨s, l⟩, q => if s = -1 then z else (altsAt M q s.toNat).any fun al => al.all fun x => (accGL M z l).getD x.f0.toNat (fun _ => false) x.f1.toNat
def accGL (M : Mv) (z : Bool) : List S28 → List (Nat → Bool)
  | [] => []
  | t :: r => accG M z t :: accGL M z r
end
theorem accGL_map (M : Mv) (z : Bool) (l : List S28) : accGL M z l = l.map (accG M z) := by
  induction l with
  | nil => rw [accGL]; rfl
  | cons a r ih => rw [accGL, ih]; rfl
theorem empty_mask (n : Nat) : IsMask n (fun _ => false) 0 := ⟨by omega, fun i hi => by simp⟩
theorem needOk_of {r n : Int} {x : Nd} (h : nbad r n x = false) : ∃ k s : Nat, (k : Int) < r ∧ (s : Int) < n ∧ x = ⟨(k : Int), (s : Int)⟩ := by
  unfold nbad at h
  simp only [Bool.or_eq_false_iff, decide_eq_false_iff_not] at h
  obtain ⟨a, b⟩ := x
  refine ⟨a.toNat, b.toNat, ?_, ?_, ?_⟩
  · have := h.1.1.1; have := h.1.1.2; simp at *; omega
  · have := h.1.2; have := h.2; simp at *; omega
  · have h1 : 0 ≤ a := by have := h.1.1.1; simp at this; exact this
    have h2 : 0 ≤ b := by have := h.1.2; simp at this; exact this
    rw [Int.toNat_of_nonneg h1, Int.toNat_of_nonneg h2]
theorem mvOk_of {rk : List Int} {st : Int} {M : Mv} (h : auB rk st M = true) : MvOk rk M ∧ ranksB rk = true ∧ 0 ≤ st ∧ st < (M.length : Int) := by
  unfold auB at h
  simp only [Bool.and_eq_true, decide_eq_true_eq] at h
  obtain ⟨⟨⟨⟨⟨h1, h2⟩, h3⟩, h4⟩, h5⟩, h6⟩ := h
  have hrow : ∀ q, q < M.length → mrowOk rk (M.length : Int) (M.getD q []) = true := fun q hq => List.all_eq_true.1 h6 _ (getD_memA hq)
  refine ⟨⟨h3, fun q hq => ?_, fun q f hq hf l hl x hx => ?_⟩, h1, h4, h5⟩
  · have := hrow q hq
    unfold mrowOk at this
    simp only [Bool.and_eq_true, decide_eq_true_eq] at this
    exact this.1
  · have h7 := hrow q hq
    unfold mrowOk at h7
    simp only [Bool.and_eq_true, decide_eq_true_eq, List.all_eq_true, List.mem_range] at h7
    have h8 := h7.2 f hf
    unfold altsOk at h8
    simp only [Bool.and_eq_true, decide_eq_true_eq, List.all_eq_true] at h8
    have h9 := h8.1.2 l hl
    unfold listOk at h9
    simp only [Bool.and_eq_true, decide_eq_true_eq, Bool.not_eq_true'] at h9
    obtain ⟨k, s, hk, hs, e⟩ := needOk_of (Bool.eq_false_iff.2 (List.any_eq_false.1 h9.1.2 x hx))
    exact ⟨k, s, by omega, by omega, e⟩
def MaskG (M : Mv) (z : Bool) (t : S28) (w : World) (E : Ending) (w' : World) : Prop := ∃ o : Nat, E = .returned (.int .i64 (o : Int)) ∧ IsMask M.length (accG M z t) o ∧ Below w.heap.size w w'
set_option maxHeartbeats 4000000 in
set_option maxRecDepth 100000 in
theorem maskG_calls (mode : Int) (z : Bool) (hz : z = decide (mode = 0)) (rk : List Int) (M : Mv) (hMv : MvOk rk M) (st : Int) (A1 : Option Addr) (n1 c1 : Nat) (A2 : Option Addr) (c2 : Nat) (w0 : World) (hM : Kd.C kA3 w0 A2 M.length M) (N : Nat) :
    ∀ t : S28, nodes t ≤ N → N ≤ 20000 → overB rk t = true → ∀ (A : Option Addr) (c : Nat) (w : World), Below w0.heap.size w0 w → Kd.C k28 w0 A t.f1.length t.f1 → t.f1.length ≤ c →
    Calls Tryz.prog 42 #[.agg #[.slice A1 n1 c1, .int .i64 st, .slice A2 M.length c2], .int .i64 mode, .agg #[.int .i64 t.f0, .slice A t.f1.length c]] w (MaskG M z t w) := by
  induction N with
  | zero => intro t h; have := nodes_pos t; omega
  | succ N ih =>
    intro t hN hN2 hov A c w hB0 hC hc
    obtain ⟨s, l⟩ := t
    rw [nodes] at hN
    have hll := lens_le (l := l)
    rw [overB, Bool.or_eq_true, Bool.and_eq_true, Bool.and_eq_true, Bool.and_eq_true, Bool.and_eq_true, decide_eq_true_eq, decide_eq_true_eq, decide_eq_true_eq, decide_eq_true_eq, decide_eq_true_eq] at hov
    have HOV := Aside0.mk hov
    have IH := Aside0.mk ih
    have HMv := Aside0.mk hMv
    have HM := Aside0.mk hM
    have HC := Aside0.mk hC
    have HB0 := Aside0.mk hB0
    have HD := Aside0.mk (show nodesL l + 1 ≤ N + 1 ∧ N + 1 ≤ 20000 ∧ l.length ≤ nodesL l from ⟨hN, hN2, hll⟩)
    have ha := below_alloc (below_alloc (Below.refl w.heap.size w) (.cells #[.slice A1 n1 c1, .int .i64 st, .slice A2 M.length c2] 25)) (.cells #[.int .i64 s, .slice A l.length c] 28)
    have hb1 := blk_alloc (blk_new w (.cells #[.slice A1 n1 c1, .int .i64 st, .slice A2 M.length c2] 25)) (.cells #[.int .i64 s, .slice A l.length c] 28)
    have hb2 := blk_at2 w (.cells #[.slice A1 n1 c1, .int .i64 st, .slice A2 M.length c2] 25) (.cells #[.int .i64 s, .slice A l.length c] 28)
    have HB := Aside0.mk ha
    have HB1 := Aside0.mk hb1
    have HB2 := Aside0.mk hb2
    clear ih hMv hM hC hB0 hN hN2 hll hov ha hb1 hb2
    go_enter Tryz.func42, Tryz.ntmps42
    go_upto_region 1 with (fail)
    generalize ((w.alloc (.cells #[.slice A1 n1 c1, .int .i64 st, .slice A2 M.length c2] 25)).alloc (.cells #[.int .i64 s, .slice A l.length c] 28)) = W1 at *
    have hk0 : W1.cell? ⟨w.heap.size + 1, 0, none⟩ = some (.int .i64 s) := (blk_cell HB2.out 0).trans rfl
    have hk1 : W1.cell? ⟨w.heap.size + 1, 1, none⟩ = some (.slice A l.length c) := (blk_cell HB2.out 1).trans rfl
    have hk2 : W1.cell? ⟨w.heap.size, 2, none⟩ = some (.slice A2 M.length c2) := (blk_cell HB1.out 2).trans rfl
    by_cases hs : s = -1
    · subst hs
      by_cases hm : mode = 0
      · subst hm
        have HZ := Aside0.mk (show z = true by rw [hz]; rfl)
        clear hz
        go_wp2
        go_ret
        obtain ⟨e1, e2⟩ := full_bit (HMv.out).1
        exact ⟨2 ^ M.length - 1, by rw [e1]; rfl, by rw [show accG M z ⟨-1, l⟩ = fun _ => true from by funext q; rw [accG, if_pos rfl, HZ.out]]; exact e2, HB.out⟩
      · have HZ := Aside0.mk (show z = false by rw [hz, decide_eq_false hm])
        have hmf : (mode == 0) = false := beq_eq_false_iff_ne.2 hm
        clear hz
        go_wp2
        go_ret
        exact ⟨0, rfl, by rw [show accG M z ⟨-1, l⟩ = fun _ => false from by funext q; rw [accG, if_pos rfl, HZ.out]]; exact empty_mask _, HB.out⟩
    · have HO := Aside0.mk ((HOV.out).resolve_left (fun hh => hs hh.1))
      obtain ⟨f, rfl⟩ : ∃ f : Nat, s = (f : Int) := ⟨s.toNat, by have := (HO.out).1.1.1; omega⟩
      have hsf : ((f : Int) == -1) = false := beq_eq_false_iff_ne.2 hs
      have HS := Aside0.mk hs
      clear HOV hs
      go_wp2
      clear hk0 hk1 hk2
      go_loopg [7, 23] l.length (fun gg v7 v23 wi => ∃ (ks : List Nat) (So : Nat → Prop), ks.length ≤ l.length ∧ l.length - ks.length ≤ gg ∧ v23 = .int .i64 ks.length ∧ Aside0 (Kd.R (Kd.int .i64) 3 wi w.heap.size So v7 (ks.map fun (m : Nat) => (m : Int))) ∧ Aside0 (∀ i, i < ks.length → IsMask M.length (accG M z (l.getD i z28)) (ks.getD i 0)) ∧ Aside0 (Below w.heap.size w wi) ∧
        Aside0 (wi.heap[w.heap.size]? = some (.cells #[.slice A1 n1 c1, .int .i64 st, .slice A2 M.length c2] 25 (0, 0))) ∧ Aside0 (wi.heap[w.heap.size + 1]? = some (.cells #[.int .i64 (f : Int), .slice A l.length c] 28 (0, 0))))
      case atStart => exact ⟨[], fun _ => False, by simp, by simp, rfl, ⟨Kd.R_nil _ _ _ _ _⟩, ⟨fun i hi => absurd hi (Nat.not_lt_zero _)⟩, HB, HB1, HB2⟩
      case round =>
        clear HB HB1 HB2
        obtain ⟨ks, So, hj, hgg, rfl, HR, HA, HB, HB1, HB2⟩ := hrel
        obtain ⟨Ak, ck, e⟩ := Kd.R_slice HR.out
        rw [List.length_map] at e
        subst e
        by_cases hlt : ks.length < l.length
        · have hltz : (ks.length : Int) < (l.length : Int) := by omega
          have HBr := Aside0.mk (below_then HB0.out (HB0.out).size HB.out)
          obtain ⟨ad, A3, c3, e, hx0, hx1, hl1, hC1⟩ := at_T28 HC.out (ks.length : Int) (by omega) hltz
          subst e
          rw [rdT_at hlt] at hx0 hx1 hl1 hC1
          rw [Int.toNat_natCast] at hx0 hx1
          replace hx0 := pw_cell_below HBr.out hx0
          replace hx1 := pw_cell_below HBr.out hx1
          have HJ := Aside0.mk (show nodes l[ks.length] ≤ nodesL l ∧ overB rk l[ks.length] = true ∧ l.getD ks.length z28 = l[ks.length] from ⟨nodes_mem (List.getElem_mem hlt), overL_mem (HO.out).2 (List.getElem_mem hlt), by rw [List.getD_eq_getElem?_getD, List.getElem?_eq_getElem hlt]; rfl⟩)
          generalize l[ks.length] = u at *
          have HC1 := Aside0.mk hC1
          have HL1 := Aside0.mk hl1
          clear hC1 hl1
          go_upto_region 9 with (fail)
          have ha := below_alloc (Below.refl wr.heap.size wr) (.cells #[.int .i64 u.f0, .slice A3 u.f1.length c3] 28)
          have HBr5 := Aside0.mk (below_then HBr.out (HBr.out).size ha)
          have HB5 := Aside0.mk (below_then HB.out (HB.out).size ha)
          have HB51 := Aside0.mk (blk_below HB1.out ha)
          have HB52 := Aside0.mk (blk_below HB2.out ha)
          have HR5 := Aside0.mk (Kd.R_below HR.out ha)
          have HX5 := Aside0.mk (blk_new wr (.cells #[.int .i64 u.f0, .slice A3 u.f1.length c3] 28))
          clear ha HB HB1 HB2 HBr HR hx0 hx1
          generalize (wr.alloc (.cells #[.int .i64 u.f0, .slice A3 u.f1.length c3] 28)) = w5 at *
          generalize wr.heap.size = b9 at *
          have hk0 : w5.cell? ⟨w.heap.size, 0, none⟩ = some (.slice A1 n1 c1) := (blk_cell HB51.out 0).trans rfl
          have hk1 : w5.cell? ⟨w.heap.size, 1, none⟩ = some (.int .i64 st) := (blk_cell HB51.out 1).trans rfl
          have hk2 : w5.cell? ⟨w.heap.size, 2, none⟩ = some (.slice A2 M.length c2) := (blk_cell HB51.out 2).trans rfl
          have hb0 : w5.cell? ⟨b9, 0, none⟩ = some (.int .i64 u.f0) := (blk_cell HX5.out 0).trans rfl
          have hb1 : w5.cell? ⟨b9, 1, none⟩ = some (.slice A3 u.f1.length c3) := (blk_cell HX5.out 1).trans rfl
          go_wp2_with fail
          refine (IH.out u (by have := HD.out; have := HJ.out; omega) (by have := HD.out; omega) (HJ.out).2.1 A3 c3 w5 HBr5.out HC1.out HL1.out).mono ?_
          rintro E w6 ⟨o, rfl, hmask, hb⟩
          have HK6 := Aside0.mk hmask
          have HB6 := Aside0.mk (below_then HB5.out (HB5.out).size hb)
          have HB61 := Aside0.mk (blk_below HB51.out hb)
          have HB62 := Aside0.mk (blk_below HB52.out hb)
          have HR6 := Aside0.mk (Kd.R_below HR5.out hb)
          clear hb hmask HB5 HB51 HB52 HR5 HX5 HBr5 hk0 hk1 hk2 hb0 hb1
          go_wp2_with ((with_reducible refine gate_builtin (b := .append) (xs := #[.tmp 27, .tmp 32]) rfl ?_); at_builtin; refine Kd.R_append (Kd.int .i64) (w0 := w) w.heap.size rfl (.tmp 27) (.tmp 32) 22 3 (.int .i64 0) 8 rfl Tryz.underlying22 Q.info3 rfl (by decide) (by omega) (.slice Ak ks.length ck) (ks.map fun (m : Nat) => (m : Int)) (o : Int) [.int .i64 (o : Int)] (fun k => So k ∨ w6.heap.size ≤ k) (fun _ => False) rfl rfl rfl (fun _ hk => hk.elim) (fun k hk => .inr hk) (Kd.R_mono HR6.out (fun _ hk => .inl hk)) HB6.out (HB6.out).size (by rw [List.length_map]; have := HD.out; omega) ?_; intro v7 w7 ho7 hb7 hg7 hat7; have HR7 := Aside0.mk ho7; have HB7 := Aside0.mk hb7; have HB71 := Aside0.mk (blk_grown HB61.out hg7 (Kd.R_ne HR6.out HB61.out (by decide))); have HB72 := Aside0.mk (blk_grown HB62.out hg7 (Kd.R_ne HR6.out HB62.out (by decide))); clear ho7 hb7 hg7 hat7)
          go_roundg (l.length - (ks.length + 1))
          case measure => omega
          case rel =>
            refine ⟨ks ++ [o], _, by rw [List.length_append, List.length_singleton]; omega, by rw [List.length_append, List.length_singleton]; omega, by rw [wrap_succ (by omega) (by have := HD.out; omega), List.length_append]; rfl, ⟨by rw [List.map_append]; exact HR7.out⟩, ⟨fun i hi => ?_⟩, HB7, HB71, HB72⟩
            rw [List.length_append, List.length_singleton] at hi
            by_cases e : i = ks.length
            · subst e
              rw [(HJ.out).2.2, List.getD_eq_getElem?_getD, List.getElem?_append_right (by omega), Nat.sub_self]
              exact HK6.out
            · rw [List.getD_eq_getElem?_getD (l := ks ++ [o]), List.getElem?_append_left (by omega), ← List.getD_eq_getElem?_getD]
              exact HA.out i (by omega)
        · have hltz : ¬ (ks.length : Int) < (l.length : Int) := by omega
          have hje : ks.length = l.length := by omega
          have HBr := Aside0.mk (below_then HB0.out (HB0.out).size HB.out)
          have hr := Kd.R_reads' HR.out
          rw [List.length_map] at hr
          have HSat := Aside0.mk (sat_calls M f ks st A1 n1 c1 A2 c2 Ak ck wr (Kd.C_below HM.out HBr.out) hr.2.2 (HMv.out).1 (fun m hm => by obtain ⟨i, hi, rfl⟩ := List.getElem_of_mem hm; have := ((HA.out) i hi).1; rwa [List.getD_eq_getElem?_getD, List.getElem?_eq_getElem hi] at this)
            (fun q hq => by rw [(HMv.out).2.1 q hq]; have := (HO.out).1.1.2; omega)
            (fun q hq al hal x hx => by
              obtain ⟨k, s', hk, hs', e⟩ := (HMv.out).2.2 q f hq (by have := (HO.out).1.1.2; omega) al hal x hx
              exact ⟨k, s', by have := (HO.out).1.2; omega, by have := (HMv.out).1; omega, e⟩))
          have HEQ := Aside0.mk (show ∀ i, i < M.length → satBit M f ks i = accG M z ⟨(f : Int), l⟩ i from fun i hi => by
            rw [accG, if_neg HS.out, Int.toNat_natCast, accGL_map]
            unfold satBit
            refine any_congr fun al hal => all_congr fun x hx => ?_
            obtain ⟨k, s', hk, hs', e⟩ := (HMv.out).2.2 i f hi (by have := (HO.out).1.1.2; omega) al hal x hx
            subst e
            have hkl : k < l.length := by have := (HO.out).1.2; omega
            have h6 := ((HA.out) k (by omega)).2 s' (by have := (HMv.out).1; omega)
            unfold meets
            simp only [Int.toNat_natCast]
            rw [h6, decide_eq_true hs', Bool.true_and, List.getD_eq_getElem?_getD, List.getD_eq_getElem?_getD, List.getElem?_eq_getElem hkl, List.getElem?_map, List.getElem?_eq_getElem hkl]
            rfl)
          have hk0 : wr.cell? ⟨w.heap.size, 0, none⟩ = some (.slice A1 n1 c1) := (blk_cell HB1.out 0).trans rfl
          have hk1 : wr.cell? ⟨w.heap.size, 1, none⟩ = some (.int .i64 st) := (blk_cell HB1.out 1).trans rfl
          have hk2 : wr.cell? ⟨w.heap.size, 2, none⟩ = some (.slice A2 M.length c2) := (blk_cell HB1.out 2).trans rfl
          have hk3 : wr.cell? ⟨w.heap.size + 1, 0, none⟩ = some (.int .i64 (f : Int)) := (blk_cell HB2.out 0).trans rfl
          clear hr hje
          go_wp2_with fail
          with_reducible refine (HSat.out).mono ?_
          rintro E w6 ⟨o, rfl, ho, hbit, hb⟩
          have HB6 := Aside0.mk (below_then HB.out (HB.out).size hb)
          have HMK := Aside0.mk (show IsMask M.length (accG M z ⟨(f : Int), l⟩) o from ⟨ho, fun i hi => by
            rw [hbit i hi]
            by_cases e : i < M.length
            · rw [HEQ.out i e]
            · rw [decide_eq_false e, Bool.false_and, Bool.false_and]⟩)
          clear hk0 hk1 hk2 hk3 hb HB HB1 HB2 HSat HEQ
          go_wp2
          go_ret
          exact ⟨o, rfl, HMK.out, HB6.out⟩
def stErr (rk : List Int) (st : Int) (M : Mv) (mode : Int) (t : S28) : Int := if auB rk st M then (if treeOk rk t then (if mode = 0 ∨ mode = 1 then 0 else 2) else 9) else 10
def StatesG (rk : List Int) (st : Int) (M : Mv) (mode : Int) (t : S28) (w : World) (E : Ending) (w' : World) : Prop :=
  ∃ (ys : List Int) (A : Option Addr) (c : Nat), E = .returned (.tuple #[.slice A ys.length c, .int .i64 (stErr rk st M mode t)]) ∧ ys.length ≤ c ∧ Kd.C (Kd.int .i64) w' A ys.length ys ∧ Below w.heap.size w w' ∧
    (stErr rk st M mode t = 0 → ∃ o : Nat, IsMask M.length (accG M (decide (mode = 0)) t) o ∧ ys = bitsL o) ∧ (stErr rk st M mode t ≠ 0 → ys = [])
set_option maxHeartbeats 4000000 in
set_option maxRecDepth 100000 in
theorem statesG_calls (rk : List Int) (M : Mv) (st mode : Int) (t : S28) (A1 : Option Addr) (c1 : Nat) (A2 : Option Addr) (c2 : Nat) (A : Option Addr) (c : Nat) (w : World)
    (hr : Kd.C (Kd.int .i64) w A1 rk.length rk) (hc1 : rk.length ≤ c1) (hM : Kd.C kA3 w A2 M.length M) (hC : Kd.C k28 w A t.f1.length t.f1) (hc : t.f1.length ≤ c) (hT : Tab w) :
    Calls Tryz.prog 13 #[.agg #[.slice A1 rk.length c1, .int .i64 st, .slice A2 M.length c2], .int .i64 mode, .agg #[.int .i64 t.f0, .slice A t.f1.length c]] w (StatesG rk st M mode t w) := by
  have HCH := Aside0.mk fun W (hW : Below w.heap.size w W) => acheckG_calls rk M st A1 c1 A2 c2 W (Kd.C_below hr hW) hc1 (Kd.C_below hM hW)
  have HTC := Aside0.mk fun W (hW : Below w.heap.size w W) => tcheckG_calls rk t A1 c1 A c W (Kd.C_below hr hW) hc1 (Kd.C_below hC hW) hc
  have HMA := Aside0.mk (show auB rk st M = true → treeOk rk t = true → ∀ W, Below w.heap.size w W → Calls Tryz.prog 42 #[.agg #[.slice A1 rk.length c1, .int .i64 st, .slice A2 M.length c2], .int .i64 mode, .agg #[.int .i64 t.f0, .slice A t.f1.length c]] W (MaskG M (decide (mode = 0)) t W) from fun ha ht W hW => by
    simp only [treeOk, Bool.and_eq_true, decide_eq_true_eq] at ht
    exact maskG_calls mode _ rfl rk M (mvOk_of ha).1 st A1 rk.length c1 A2 c2 w hM _ t (Nat.le_refl _) ht.1.1 ht.2 A c W hW hC hc)
  have HLI := Aside0.mk fun W (hW : Below w.heap.size w W) (o : Nat) (ho : o < 64) => list_calls o ho W (hT.below hW)
  have HS := Aside0.mk (AT2.start w #[.slice A1 rk.length c1, .int .i64 st, .slice A2 M.length c2] #[.int .i64 t.f0, .slice A t.f1.length c])
  clear hr hc1 hM hC hc hT
  go_enter Tryz.func13, Tryz.ntmps13
  go_upto_region 1 with (fail)
  generalize ((w.alloc (.cells #[.slice A1 rk.length c1, .int .i64 st, .slice A2 M.length c2] 25)).alloc (.cells #[.int .i64 t.f0, .slice A t.f1.length c] 28)) = W1 at *
  obtain ⟨hk0, hk1, hk2⟩ := box3_cells (HS.out).h1
  go_wp2_with fail
  refine (HCH.out _ (HS.out).hb).mono ?_
  rintro E w2 ⟨rfl, hb⟩
  have HS2 := Aside0.mk ((HS.out).below hb)
  clear hb hk0 hk1 hk2 HS HCH
  cases hau : auB rk st M with
  | false =>
    have HE := Aside0.mk (show stErr rk st M mode t = 10 by unfold stErr; rw [hau]; rfl)
    rw [chk_false hau]
    clear hau
    go_wp2
    go_ret2
    exact ⟨[], none, 0, by rw [HE.out]; rfl, by simp, (Kd.R_reads' (Kd.R_nil (Kd.int .i64) 3 w2 0 (fun _ => True))).2.2, (HS2.out).hb, fun h => absurd h (by rw [HE.out]; decide), fun _ => rfl⟩
  | true =>
  rw [chk_true hau]
  have HAU := Aside0.mk hau
  have HRK := Aside0.mk (mvOk_of hau).2.1
  clear hau
  obtain ⟨hk0, hk1, hk2⟩ := box3_cells (HS2.out).h1
  obtain ⟨hk3, hk4⟩ := box2_cells (HS2.out).h2
  go_wp2_with fail
  refine (HTC.out _ (HS2.out).hb).mono ?_
  rintro E w3 ⟨rfl, hb⟩
  have HS3 := Aside0.mk ((HS2.out).below hb)
  clear hb hk0 hk1 hk2 hk3 hk4 HS2 HTC
  cases hto : treeOk rk t with
  | false =>
    have HE := Aside0.mk (show stErr rk st M mode t = 9 by unfold stErr; rw [HAU.out, hto]; rfl)
    rw [show tcheckV rk t = 9 by unfold tcheckV; rw [HRK.out, hto]; rfl]
    clear hto
    go_wp2
    go_ret2
    exact ⟨[], none, 0, by rw [HE.out]; rfl, by simp, (Kd.R_reads' (Kd.R_nil (Kd.int .i64) 3 w3 0 (fun _ => True))).2.2, (HS3.out).hb, fun h => absurd h (by rw [HE.out]; decide), fun _ => rfl⟩
  | true =>
  rw [show tcheckV rk t = 0 by unfold tcheckV; rw [HRK.out, hto]; rfl]
  have HMA2 := Aside0.mk (HMA.out HAU.out hto)
  have HTO := Aside0.mk hto
  clear hto HMA
  by_cases hm : mode = 0 ∨ mode = 1
  · have HE := Aside0.mk (show stErr rk st M mode t = 0 by unfold stErr; rw [HAU.out, HTO.out, if_pos rfl, if_pos rfl, if_pos hm])
    have hd : ¬ (mode ≠ 0 ∧ mode ≠ 1) := by omega
    obtain ⟨hk0, hk1, hk2⟩ := box3_cells (HS3.out).h1
    obtain ⟨hk3, hk4⟩ := box2_cells (HS3.out).h2
    have hdone : ∀ (w4 : World) (o : Nat), True := fun _ _ => trivial
    rcases hm with hm | hm
    · subst hm
      go_wp2_with fail
      refine (HMA2.out _ (HS3.out).hb).mono ?_
      rintro E w4 ⟨o, rfl, hmk, hb⟩
      have HS4 := Aside0.mk ((HS3.out).below hb)
      have HK := Aside0.mk hmk
      clear hb hmk hk0 hk1 hk2 hk3 hk4 HS3 HMA2
      go_wp2_with fail
      refine (HLI.out _ (HS4.out).hb o (HK.out).1).mono ?_
      rintro E w5 ⟨A5, c5, rfl, hl5, hC5, hb⟩
      have HB5 := Aside0.mk ((HS4.out).below hb).hb
      have HC5 := Aside0.mk hC5
      have HL5 := Aside0.mk hl5
      clear hb hC5 hl5 HS4 HLI
      go_wp2
      go_ret2
      exact ⟨bitsL o, A5, c5, by rw [HE.out]; rfl, HL5.out, HC5.out, HB5.out, fun _ => ⟨o, HK.out, rfl⟩, fun h => absurd HE.out h⟩
    · subst hm
      go_wp2_with fail
      refine (HMA2.out _ (HS3.out).hb).mono ?_
      rintro E w4 ⟨o, rfl, hmk, hb⟩
      have HS4 := Aside0.mk ((HS3.out).below hb)
      have HK := Aside0.mk hmk
      clear hb hmk hk0 hk1 hk2 hk3 hk4 HS3 HMA2
      go_wp2_with fail
      refine (HLI.out _ (HS4.out).hb o (HK.out).1).mono ?_
      rintro E w5 ⟨A5, c5, rfl, hl5, hC5, hb⟩
      have HB5 := Aside0.mk ((HS4.out).below hb).hb
      have HC5 := Aside0.mk hC5
      have HL5 := Aside0.mk hl5
      clear hb hC5 hl5 HS4 HLI
      go_wp2
      go_ret2
      exact ⟨bitsL o, A5, c5, by rw [HE.out]; rfl, HL5.out, HC5.out, HB5.out, fun _ => ⟨o, HK.out, rfl⟩, fun h => absurd HE.out h⟩
  · have HE := Aside0.mk (show stErr rk st M mode t = 2 by unfold stErr; rw [HAU.out, HTO.out, if_pos rfl, if_pos rfl, if_neg hm])
    have d1 : (mode == 0) = false := beq_eq_false_iff_ne.2 (fun h => hm (.inl h))
    have d2 : (mode != 0) = true := bne_iff_ne.2 (fun h => hm (.inl h))
    have d3 : (mode == 1) = false := beq_eq_false_iff_ne.2 (fun h => hm (.inr h))
    have d4 : (mode != 1) = true := bne_iff_ne.2 (fun h => hm (.inr h))
    clear hm
    go_wp2
    go_ret2
    exact ⟨[], none, 0, by rw [HE.out]; rfl, by simp, (Kd.R_reads' (Kd.R_nil (Kd.int .i64) 3 w3 0 (fun _ => True))).2.2, (HS3.out).hb, fun h => absurd h (by rw [HE.out]; decide), fun _ => rfl⟩
def isV (rk : List Int) (st : Int) (M : Mv) (mode : Int) (t : S28) : Bool := decide (stErr rk st M mode t = 0) && accG M (decide (mode = 0)) t st.toNat
set_option maxHeartbeats 4000000 in
theorem aisG_calls (rk : List Int) (M : Mv) (st mode : Int) (t : S28) (A1 : Option Addr) (c1 : Nat) (A2 : Option Addr) (c2 : Nat) (A : Option Addr) (c : Nat) (w : World)
    (hr : Kd.C (Kd.int .i64) w A1 rk.length rk) (hc1 : rk.length ≤ c1) (hM : Kd.C kA3 w A2 M.length M) (hC : Kd.C k28 w A t.f1.length t.f1) (hc : t.f1.length ≤ c) (hT : Tab w) :
    Calls Tryz.prog 15 #[.agg #[.slice A1 rk.length c1, .int .i64 st, .slice A2 M.length c2], .int .i64 mode, .agg #[.int .i64 t.f0, .slice A t.f1.length c]] w fun E w' => E = .returned (.tuple #[.bool (isV rk st M mode t), .int .i64 (stErr rk st M mode t)]) ∧ Below w.heap.size w w' := by
  have HST := Aside0.mk fun W (hW : Below w.heap.size w W) => statesG_calls rk M st mode t A1 c1 A2 c2 A c W (Kd.C_below hr hW) hc1 (Kd.C_below hM hW) (Kd.C_below hC hW) hc (hT.below hW)
  have HS := Aside0.mk (AT2.start w #[.slice A1 rk.length c1, .int .i64 st, .slice A2 M.length c2] #[.int .i64 t.f0, .slice A t.f1.length c])
  clear hr hc1 hM hC hc hT
  go_enter Tryz.func15, Tryz.ntmps15
  go_upto_region 1 with (fail)
  generalize ((w.alloc (.cells #[.slice A1 rk.length c1, .int .i64 st, .slice A2 M.length c2] 25)).alloc (.cells #[.int .i64 t.f0, .slice A t.f1.length c] 28)) = W1 at *
  obtain ⟨hk0, hk1, hk2⟩ := box3_cells (HS.out).h1
  obtain ⟨hk3, hk4⟩ := box2_cells (HS.out).h2
  go_wp2_with fail
  refine (HST.out _ (HS.out).hb).mono ?_
  rintro E w2 ⟨ys, A5, c5, rfl, hl5, hC5, hb, hz, hnz⟩
  have HS2 := Aside0.mk ((HS.out).below hb)
  have HCO := Aside0.mk (show Calls Tryz.prog 45 #[.slice A5 ys.length c5, .int .i64 st] w2 fun E w' => E = .returned (.bool (isV rk st M mode t)) ∧ Below w2.heap.size w2 w' from by
    by_cases he : stErr rk st M mode t = 0
    · obtain ⟨o, hm, rfl⟩ := hz he
      have hau : auB rk st M = true := by
        cases h : auB rk st M with
        | true => rfl
        | false => unfold stErr at he; rw [h] at he; simp at he
      obtain ⟨hmv, _, h0, h1⟩ := mvOk_of hau
      have h6 := hmv.1
      obtain ⟨s, rfl⟩ : ∃ s : Nat, st = (s : Int) := ⟨st.toNat, by omega⟩
      have e1 : isV rk (s : Int) M mode t = o.testBit s := by
        unfold isV
        rw [decide_eq_true he, Bool.true_and, Int.toNat_natCast, hm.2 s (by omega), decide_eq_true (show s < M.length by omega), Bool.true_and]
      rw [e1]
      exact (Q.slices_Contains_int_int.calls 20 A5 c5 (bitsL o) (s : Int) (o.testBit s) w2 hC5 hl5 (contains_bit hm.1 (by omega))).mono fun _ _ h => ⟨h.1, h.2.below⟩
    · have hy := hnz he
      subst hy
      have e1 : isV rk st M mode t = false := by unfold isV; rw [decide_eq_false he, Bool.false_and]
      rw [e1]
      exact (Q.slices_Contains_int_int.calls 20 A5 c5 [] st false w2 hC5 hl5 rfl).mono fun _ _ h => ⟨h.1, h.2.below⟩)
  clear hb hz hnz hl5 hC5 hk0 hk1 hk2 hk3 hk4 HS HST
  obtain ⟨hk0, hk1, hk2⟩ := box3_cells (HS2.out).h1
  go_wp2_with fail
  refine (HCO.out).mono ?_
  rintro E w3 ⟨rfl, hb⟩
  have HB3 := Aside0.mk (below_then (HS2.out).hb ((HS2.out).hb).size hb)
  clear hb hk0 hk1 hk2 HS2 HCO
  go_wp2
  go_ret2
  exact ⟨rfl, HB3.out⟩
end Go.Proofs.YtbmcigakiibncaaGreatDoor.H
namespace Go.Proofs.YtbmcigakiibncaaGreatDoor.H
open Go.RowKit Go.Proofs.YtbmcigakiibncaaGreatDoorW.PrintWords Go.Proofs.YtbmcigakiibncaaGreatDoorW.PrintLast Go.Proofs.YtbmcigakiibncaaGreatDoorW.PrintMore
set_option linter.unusedVariables false
def WordsB (s f : ByteArray) (w : World) (E : Ending) (w' : World) : Prop :=
  Below w.heap.size w w' ∧ ((chunks s 32).head? ≠ some f ∧ E = pbad ∨ (chunks s 32).head? = some f ∧ ∃ o, E = .returned (.slice (some ⟨w.heap.size, o, none⟩) ((chunks s 32).drop 1).length ((chunks s 32).drop 1).length) ∧ (((chunks s 32).drop 1).length = 0 ∨ o = 1) ∧ w'.heap[w.heap.size]? = some (.cells ((chunks s 32).map Value.string).toArray 9 (0, 0)))
set_option maxHeartbeats 4000000 in
theorem wordsB_calls (s f : ByteArray) (w : World) (hs : s.size ≤ 70000) (hm : MX w) :
    Calls Tryz.prog 60 #[.string s, .string f] w (WordsB s f w) := by
  have HS := Aside0.mk (split_calls s 32 w hs hm)
  obtain ⟨p, r, he, hr⟩ := chunks_ne s 32
  have HB := Aside0.mk (below_alloc (Below.refl w.heap.size w) (.cells ((p :: r).map Value.string).toArray 9))
  have HE := Aside0.mk he
  rw [he] at HS
  have HC := Aside0.mk (blk_new w (.cells ((p :: r).map Value.string).toArray 9))
  have hk0 : (w.alloc (.cells ((p :: r).map Value.string).toArray 9)).cell? ⟨w.heap.size, 0, none⟩ = some (.string p) := (blk_cell (blk_new w _) 0).trans rfl
  clear he hr hm
  go_enter Tryz.func60, Tryz.ntmps60
  go_wp2_with fail
  refine (HS.out).mono ?_
  rintro E w2 ⟨rfl, rfl⟩
  generalize hW : w.alloc (.cells ((p :: r).map Value.string).toArray 9) = W2 at *
  clear hW
  cases q : (p.toList == f.toList) with
  | false =>
    have HQ := Aside0.mk (string_ne q)
    go_wp2
    exact ⟨rfl, HB.out, .inl ⟨by rw [HE.out]; exact fun e => HQ.out (Option.some.inj e), rfl⟩⟩
  | true =>
    have HQ := Aside0.mk (string_inj q)
    go_wp2
    · go_ret
      subst h
      exact ⟨HB.out, .inr ⟨by rw [HE.out, HQ.out]; rfl, 0, by rw [HE.out]; rfl, .inl (by rw [HE.out]; rfl), by rw [HE.out]; exact HC.out⟩⟩
    · go_ret
      exact ⟨HB.out, .inr ⟨by rw [HE.out, HQ.out]; rfl, 1, by rw [HE.out]; rfl, .inr rfl, by rw [HE.out]; exact HC.out⟩⟩
theorem catch_idle (p q : Addr) (w : World) :
    CallsD Tryz.prog 58 #[.pointer (some p), .pointer (some q)] .returning w fun e u' w' => e = .returned (.tuple #[]) ∧ u' = .returning ∧ w' = w := by
  refine callsD_of_wpS Tryz.func58 rfl fun c₀ cs hu => ?_
  apply wpS_seq
  apply wpS_region
  simp [wpOpsS, go_sem, recoverD, hu, Tryz.ntmps58, Exit.thenS]
  apply wpS_seq
  apply wpS_region
  simp [wpOpsS, go_sem, Exit.thenS]
  refine wpS_cond (t := false) (by simp [Act.eval, Array.replicate]) ?_
  simp only [Bool.false_eq_true, if_false]
  refine wpS_of_wp (wp_skip ?_)
  cases c₀
  simp_all [bodyPostS, results, Tryz.results58]
set_option maxHeartbeats 4000000 in
set_option maxRecDepth 100000 in
theorem catch_bad (a : Nat) (x y z e : Value) (w : World) (h0 : w.heap[a]? = some (.cells #[x, y, z] 25 (0, 0))) (h1 : w.heap[a + 1]? = some (.cells #[e] 29 (0, 0))) :
    CallsD Tryz.prog 58 #[.pointer (some ⟨a, 0, none⟩), .pointer (some ⟨a + 1, 0, none⟩)] (.panicking [{ v := .iface 89 (.agg #[]), recovered := false }]) w fun e u' w' =>
      e = .returned (.tuple #[]) ∧ u' = .panicking [{ v := .iface 89 (.agg #[]), recovered := true }] ∧ w'.heap[a]? = some (.cells #[.slice none 0 0, .int .i64 0, .slice none 0 0] 25 (0, 0)) ∧ w'.heap[a + 1]? = some (.cells #[.int .i64 4] 29 (0, 0)) ∧ Below a w w' := by
  refine callsD_of_wpS Tryz.func58 rfl fun c₀ cs hu => ?_
  apply wpS_seq
  apply wpS_region
  simp [wpOpsS, go_sem, recoverD, hu, Tryz.ntmps58, Exit.thenS]
  refine wpS_of_wp ?_
  rw [show (#[Value.pointer (some ⟨a, 0, none⟩), Value.pointer (some ⟨a + 1, 0, none⟩)] ++ ((Array.replicate 15 undef).setIfInBounds 3 (Value.iface 89 (Value.agg #[]))).setIfInBounds 0 (Value.iface 89 (Value.agg #[]))) = #[Value.pointer (some ⟨a, 0, none⟩), Value.pointer (some ⟨a + 1, 0, none⟩), Value.iface 89 (Value.agg #[]), undef, undef, Value.iface 89 (Value.agg #[]), undef, undef, undef, undef, undef, undef, undef, undef, undef, undef, undef] from rfl]
  have hta : ∀ W : World, (Instr.typeAssert (Value.iface 89 (Value.agg #[])) 20 89 true).run Tryz.prog W = .ok (.tuple #[.agg #[], .bool true]) W := fun W => by kernel_rfl
  have HB := Aside0.mk (below_alloc (Below.refl w.heap.size w) (.cells #[] 89))
  have HQ0 := Aside0.mk hu
  have ha : a < w.heap.size := (Array.getElem?_eq_some_iff.1 h0).1
  generalize hQ : bodyPostS Tryz.prog Tryz.f58 c₀ cs _ = QQ
  have HQ := Aside0.mk hQ
  clear hQ
  go_upto_region 5 with (fail)
  have H0 := Aside0.mk (blk_below h0 HB.out)
  have H1 := Aside0.mk (blk_below h1 HB.out)
  clear h0 h1
  generalize w.alloc (.cells #[] 89) = W2 at *
  have c0 : W2.cell? ⟨a, 0, none⟩ = some x := (blk_cell H0.out 0).trans rfl
  have c1 : W2.cell? ⟨a, 1, none⟩ = some y := (blk_cell H0.out 1).trans rfl
  have c2 : W2.cell? ⟨a, 2, none⟩ = some z := (blk_cell H0.out 2).trans rfl
  have c3 : W2.cell? ⟨a + 1, 0, none⟩ = some e := (blk_cell H1.out 0).trans rfl
  have f0 : W2.frozen? ⟨a, 0, none⟩ = false := blk_frozen H0.out 0
  have f1 : W2.frozen? ⟨a, 1, none⟩ = false := blk_frozen H0.out 1
  have f2 : W2.frozen? ⟨a, 2, none⟩ = false := blk_frozen H0.out 2
  have f3 : W2.frozen? ⟨a + 1, 0, none⟩ = false := blk_frozen H1.out 0
  go_wp2
  rw [← HQ.out]
  have hB := Below.mono HB.out (show a ≤ w.heap.size from Nat.le_of_lt ha)
  clear c0 c1 c2 c3 f0 f1 f2 f3
  refine ⟨rfl, _, rfl, _, results_none rfl _ _ _, rfl, rfl, ?_, ?_, ?_⟩
  · exact blk_far (blk_set (blk_set (blk_set H0.out 0 _) 1 _) 2 _) (by show a ≠ a + 1; omega) _
  · exact blk_set (blk_far (blk_far (blk_far H1.out (by show a + 1 ≠ a; omega) _) (by show a + 1 ≠ a; omega) _) (by show a + 1 ≠ a; omega) _) 0 _
  · exact (((hB.setCell (p := ⟨a, 0, none⟩) (Nat.le_refl a) _).setCell (p := ⟨a, 1, none⟩) (Nat.le_refl a) _).setCell (p := ⟨a, 2, none⟩) (Nat.le_refl a) _).setCell (p := ⟨a + 1, 0, none⟩) (Nat.le_succ a) _
end Go.Proofs.YtbmcigakiibncaaGreatDoor.H
namespace Go.Proofs.YtbmcigakiibncaaGreatDoor.H
open Go.RowKit Go.Proofs.YtbmcigakiibncaaGreatDoorW.PrintWords Go.Proofs.YtbmcigakiibncaaGreatDoorW.PrintLast Go.Proofs.YtbmcigakiibncaaGreatDoorW.PrintMore
set_option linter.unusedVariables false
def sRanks : ByteArray := ⟨#[114, 97, 110, 107, 115]⟩
def sStates : ByteArray := ⟨#[115, 116, 97, 116, 101, 115]⟩
def sStart : ByteArray := ⟨#[115, 116, 97, 114, 116]⟩
def okW (s : ByteArray) : Bool := numOk s.data.toList
def valW (s : ByteArray) : Int := num0V s.data.toList
def lnAt (s : ByteArray) : List UInt8 × List UInt8 × Bool := Lib.cut s.data.toList [58]
def lnXY (s : ByteArray) : List UInt8 × List UInt8 × Bool := Lib.cut (lnAt s).1 [32]
def lnGo (s : ByteArray) : Bool := (lnAt s).2.2 && (lnXY s).2.2 && numOk (lnXY s).1 && numOk (lnXY s).2.1
def lnQ (s : ByteArray) : Int := num0V (lnXY s).1
def lnF (s : ByteArray) : Int := num0V (lnXY s).2.1
def lnZ (s : ByteArray) : Option (List Nd) := altV ((lnAt s).2.1.length + 1) (lnAt s).2.1
def lnOk (states m last : Int) (s : ByteArray) : Bool := !(decide (lnQ s ≥ states) || decide (lnF s ≥ m) || decide (lnQ s * m + lnF s < last))
def addAlt (M : Mv) (q f : Nat) (z : List Nd) : Mv := M.set q ((M.getD q []).set f ((M.getD q []).getD f [] ++ [z]))
def gstep (states : Int) (m : Nat) : List ByteArray → Int → Mv → Option Mv
  | [], _, M => some M
  | s :: r, last, M => if lnGo s && lnOk states m last s then (match lnZ s with | none => none | some z => gstep states m r (lnQ s * m + lnF s) (if lnQ s < M.length then addAlt M (lnQ s).toNat (lnF s).toNat z else M)) else none
def secOk (ws : List ByteArray) : Bool := match ws with | [a, b, c] => decide (b = sStart) && okW a && okW c | _ => false
def getV (t : ByteArray) : Option (List Int × Int × Mv) :=
  let L := chunks t 10
  if 3 ≤ L.length ∧ L.getD (L.length - 1) ByteArray.empty = ByteArray.empty then
    let a := chunks (L.getD 0 ByteArray.empty) 32
    let b := chunks (L.getD 1 ByteArray.empty) 32
    if a.head? = some sRanks ∧ (a.drop 1).all okW = true ∧ b.head? = some sStates ∧ secOk (b.drop 1) = true then
      let rk := (a.drop 1).map valW
      let states := valW (b.getD 1 ByteArray.empty)
      (gstep states rk.length ((L.drop 2).take (L.length - 3)) (-1) (List.replicate (min states 7).toNat (List.replicate rk.length []))).map fun M => (rk, valW (b.getD 3 ByteArray.empty), M)
    else none
  else none
def getR (t : ByteArray) : Int × List Int × Int × Mv :=
  if 65536 < t.size then (3, [], 0, []) else match getV t with | none => (4, [], 0, []) | some (rk, st, M) => if chkA rk st M = 0 then (0, rk, st, M) else (10, [], 0, [])
def GetE (t : ByteArray) (w : World) (E : Ending) (w' : World) : Prop :=
  ∃ A1 c1 A2 c2, E = .returned (.tuple #[.agg #[.slice A1 (getR t).2.1.length c1, .int .i64 (getR t).2.2.1, .slice A2 (getR t).2.2.2.length c2], .int .i64 (getR t).1]) ∧ Kd.C (Kd.int .i64) w' A1 (getR t).2.1.length (getR t).2.1 ∧ (getR t).2.1.length ≤ c1 ∧ Kd.C kA3 w' A2 (getR t).2.2.2.length (getR t).2.2.2 ∧ (getR t).2.2.2.length ≤ c2 ∧ Below w.heap.size w w'
end Go.Proofs.YtbmcigakiibncaaGreatDoor.H
namespace Go.Proofs.YtbmcigakiibncaaGreatDoor.H
open Go.RowKit Go.Proofs.YtbmcigakiibncaaGreatDoorW.PrintWords Go.Proofs.YtbmcigakiibncaaGreatDoorW.PrintLast Go.Proofs.YtbmcigakiibncaaGreatDoorW.PrintMore
set_option linter.unusedVariables false
theorem size76 : (Tryz.prog.info? 76).map (fun i => i.size) = some 2 := by kernel_rfl
theorem lies76 : liesAt Tryz.prog Tryz.prog.depth 76 (2 / Tryz.prog.cellsOf 76) 0 76 1 = true := by kernel_rfl
theorem info5b : (Tryz.prog.info? 5).map (fun i => (i.zero, i.size, i.bytes)) = some (some (.int .u8 0), 1, 1) := by kernel_rfl
set_option maxHeartbeats 2000000 in
set_option maxRecDepth 100000 in
theorem check_used (b : Nat) (w : World) (h0 : w.cell? ⟨b, 0, none⟩ = some (.pointer (some ⟨b, 0, none⟩))) :
    Calls Tryz.prog 100 #[.pointer (some ⟨b, 0, none⟩)] w fun e w' => e = .returned (.tuple #[]) ∧ w' = w := by
  obtain ⟨j, hj, _⟩ := Option.map_eq_some_iff.1 size76
  go_enter Tryz.func100, Tryz.ntmps100
  go_wp2
  rw [Lib.run_neq_ptr_same w _ Tryz.underlying73 hj]
  go_wp2
  go_end0
  exact ⟨rfl, rfl⟩
set_option maxHeartbeats 2000000 in
set_option maxRecDepth 100000 in
theorem check_fresh (b : Nat) (w : World) (h0 : w.cell? ⟨b, 0, none⟩ = some (.pointer none)) (hsh : w.shape? b = some (76, 2)) (hfz : w.frozen? ⟨b, 0, none⟩ = false) :
    Calls Tryz.prog 100 #[.pointer (some ⟨b, 0, none⟩)] w fun e w' => e = .returned (.tuple #[]) ∧ w' = w.setCell ⟨b, 0, none⟩ (.pointer (some ⟨b, 0, none⟩)) := by
  obtain ⟨j, hj, hjs⟩ := Option.map_eq_some_iff.1 size76
  go_enter Tryz.func100, Tryz.ntmps100
  go_wp2
  rw [Lib.run_to_unsafe w ⟨b, 0, none⟩ Tryz.underlying73 Tryz.underlying147 hj (by rw [hjs]; decide) hsh (Nat.zero_lt_succ 1)]
  simp only [Result.andThen]
  rw [Oper.upon_value]
  go_wp2
  rw [run_callFunc_extern Tryz.func120 (by kernel_rfl) (by kernel_rfl) (by kernel_rfl) (e := Extern.AbiNoEscape.same) (by kernel_rfl)]
  rw [Lib.run_noEscape]
  simp only [Result.andThen]
  rw [Oper.upon_value]
  go_wp2
  rw [Lib.run_from_unsafe w ⟨b, 0, none⟩ Tryz.underlying147 Tryz.underlying73 hj hsh lies76]
  simp only [Result.andThen]
  rw [Oper.upon_value]
  go_wp2
  go_end0
  exact ⟨rfl, rfl⟩
theorem check_calls (B b : Nat) (bs : List Value) (w : World) (h : Lib.IsBuilder 76 5 B b bs w) :
    Calls Tryz.prog 100 #[.pointer (some ⟨b, 0, none⟩)] w fun e w' => e = .returned (.tuple #[]) ∧ (Lib.BuilderAt 76 5 B b (.pointer (some ⟨b, 0, none⟩)) bs w' ∧ Below B w w') := by
  rcases h with h | h
  · refine (check_fresh b w h.cell0 h.shape h.frozen0).mono ?_
    rintro e w' ⟨rfl, rfl⟩
    exact ⟨rfl, h.used _, (Below.refl B w).setCell (p := ⟨b, 0, none⟩) h.1 _⟩
  · refine (check_used b w h.cell0).mono ?_
    rintro e w' ⟨rfl, rfl⟩
    exact ⟨rfl, h, Below.refl B _⟩
def BB (B b : Nat) (l : List UInt8) (w : World) : Prop := Lib.IsBuilder 76 5 B b (Lib.byteCells l) w
set_option maxHeartbeats 2000000 in
set_option maxRecDepth 100000 in
theorem wstr_calls (B b : Nat) (bs : List Value) (s : ByteArray) (w : World) (h : Lib.IsBuilder 76 5 B b bs w) (hlen : bs.length + s.size ≤ 140737488355328) (hBw : B ≤ w.heap.size) :
    Calls Tryz.prog 52 #[.pointer (some ⟨b, 0, none⟩), .string s] w fun e w' => e = .returned (.tuple #[.int .i64 s.size, .nilIface]) ∧ (Lib.BuilderAt 76 5 B b (.pointer (some ⟨b, 0, none⟩)) (bs ++ Lib.strCells s) w' ∧ Below B w w') := by
  obtain ⟨i0, hi, hz0, hz1, hz2⟩ := info_parts info5b
  have HC := Aside0.mk (check_calls B b bs w h)
  clear h
  go_enter Tryz.func52, Tryz.ntmps52
  go_wp2_with fail
  refine (HC.out).mono ?_
  rintro e w1 ⟨rfl, h1, hb1⟩
  obtain ⟨hB, v, hbk, hown, hne⟩ := h1
  have c0 : w1.cell? ⟨b, 0, none⟩ = some (.pointer (some ⟨b, 0, none⟩)) := by rw [Lib.cell_of_heap hbk]; rfl
  have c1 : w1.cell? ⟨b, 1, none⟩ = some v := by rw [Lib.cell_of_heap hbk]; rfl
  go_wp2_with (at_builtin; refine Lib.wpList_append_own_string _ rfl _ _ 74 9 rfl B 5 i0 Tryz.underlying74 Tryz.underlying9 hi hz0 hz1 hz2 _ _ _ rfl hown s rfl ?c3 ?c4 ?c5 ?_)
  case c3 => unfold maxLen; omega
  case c4 => omega
  case c5 => have := hb1.size; omega
  intro v' w2 hown' hgrow _
  have hlt : b < w1.heap.size := blk_lt hbk
  have hb2 : w2.heap[b]? = some (.cells #[.pointer (some ⟨b, 0, none⟩), v] 76 (0, 0)) := by
    rw [hgrow.block b hlt (fun e => hne e.symm)]
    exact hbk
  have d0 : w2.cell? ⟨b, 0, none⟩ = some (.pointer (some ⟨b, 0, none⟩)) := by rw [Lib.cell_of_heap hb2]; rfl
  have d1 : w2.cell? ⟨b, 1, none⟩ = some v := by rw [Lib.cell_of_heap hb2]; rfl
  have f1 : w2.frozen? ⟨b, 1, none⟩ = false := Lib.frozen_of_heap hb2 1
  obtain ⟨ao, n', cap, rfl⟩ : ∃ ao n' cap, v' = .slice ao n' cap := by
    rcases hown'.2 with ⟨hv, _⟩ | ⟨g, cap, cur, hv, _⟩
    · exact ⟨_, _, _, hv⟩
    · exact ⟨_, _, _, hv⟩
  go_wp2
  go_ret2
  refine ⟨rfl, ?_, ?_⟩
  · exact Lib.BuilderAt.put (T := 76) (e := 5) hB hb2 (bs' := bs ++ Lib.strCells s) (by simpa [Lib.strCells_length] using hown') (by decide)
  · exact (hb1.grown hgrow (by have := hb1.size; omega) (fun k hk => (hown.lt k hk).1)).setCell (p := ⟨b, 1, none⟩) hB _
set_option maxHeartbeats 2000000 in
set_option maxRecDepth 100000 in
theorem wbyte_calls (B b : Nat) (bs : List Value) (c : Int) (w : World) (h : Lib.IsBuilder 76 5 B b bs w) (hlen : bs.length + 1 ≤ 140737488355328) (hBw : B ≤ w.heap.size) :
    Calls Tryz.prog 54 #[.pointer (some ⟨b, 0, none⟩), .int .u8 c] w fun e w' => e = .returned .nilIface ∧ (Lib.BuilderAt 76 5 B b (.pointer (some ⟨b, 0, none⟩)) (bs ++ [.int .u8 c]) w' ∧ Below B w w') := by
  obtain ⟨i0, hi, hz0, hz1, hz2⟩ := info_parts info5b
  have HC := Aside0.mk (check_calls B b bs w h)
  clear h
  go_enter Tryz.func54, Tryz.ntmps54
  go_wp2_with fail
  refine (HC.out).mono ?_
  rintro e w1 ⟨rfl, h1, hb1⟩
  obtain ⟨hB, v, hbk, hown, hne⟩ := h1
  have c0 : w1.cell? ⟨b, 0, none⟩ = some (.pointer (some ⟨b, 0, none⟩)) := by rw [Lib.cell_of_heap hbk]; rfl
  have c1 : w1.cell? ⟨b, 1, none⟩ = some v := by rw [Lib.cell_of_heap hbk]; rfl
  go_wp2_with (at_builtin; refine wpList_append_own _ rfl _ _ 74 rfl B 5 i0 (.int .u8 0) 1 1 Tryz.underlying74 hi hz0 hz1 hz2 rfl (by decide) _ _ _ rfl (hown.alloc _) ⟨w1.heap.size, 0, none⟩ 1 1 [.int .u8 c] rfl rfl ?c1 ?c2 ?c3 ?c4 ?c5 ?_)
  case c1 =>
    intro j u hj
    match j, hj with
    | 0, hj => simp at hj; subst hj; simp [Addr.add]
  case c2 => intro u hu; simp at hu; subst hu; rfl
  case c3 => unfold maxLen; omega
  case c4 => omega
  case c5 => have := hb1.size; simp; omega
  intro v' w2 hown' hgrow _
  have hlt : b < w1.heap.size := blk_lt hbk
  have hb2 : w2.heap[b]? = some (.cells #[.pointer (some ⟨b, 0, none⟩), v] 76 (0, 0)) := by
    rw [hgrow.block b (by simp; omega) (fun e => hne e.symm), Lib.alloc_old w1 _ b hlt]
    exact hbk
  have d0 : w2.cell? ⟨b, 0, none⟩ = some (.pointer (some ⟨b, 0, none⟩)) := by rw [Lib.cell_of_heap hb2]; rfl
  have d1 : w2.cell? ⟨b, 1, none⟩ = some v := by rw [Lib.cell_of_heap hb2]; rfl
  have f1 : w2.frozen? ⟨b, 1, none⟩ = false := Lib.frozen_of_heap hb2 1
  obtain ⟨g, cap, rfl⟩ : ∃ g cap, v' = .slice (some ⟨g, 0, none⟩) (bs.length + 1) cap := by
    rcases hown'.2 with ⟨_, h0⟩ | ⟨g, cap, cur, hv, _⟩
    · omega
    · exact ⟨g, cap, hv⟩
  go_wp2
  go_ret
  refine ⟨rfl, ?_, ?_⟩
  · exact Lib.BuilderAt.put (T := 76) (e := 5) hB hb2 (bs' := bs ++ [.int .u8 c]) (by simpa using hown') (by decide)
  · exact ((hb1.alloc (by have := hb1.size; omega) _).grown hgrow (by have := hb1.size; simp; omega) (fun k hk => (hown.lt k hk).1)).setCell (p := ⟨b, 1, none⟩) hB _
end Go.Proofs.YtbmcigakiibncaaGreatDoor.H
namespace Go.Proofs.YtbmcigakiibncaaGreatDoor.H
open Go.RowKit Go.Proofs.YtbmcigakiibncaaGreatDoorW.PrintWords Go.Proofs.YtbmcigakiibncaaGreatDoorW.PrintLast Go.Proofs.YtbmcigakiibncaaGreatDoorW.PrintMore
set_option linter.unusedVariables false
def dg (n : Nat) : List UInt8 := Lib.decDigits n
def ranksT (rk : List Int) : List UInt8 := rk.flatMap fun r => 32 :: dg r.toNat
def needT (x : Nd) : List UInt8 := 32 :: (dg x.f0.toNat ++ 46 :: dg x.f1.toNat)
def headT (q f : Nat) : List UInt8 := dg q ++ 32 :: (dg f ++ [58])
def altT (q f : Nat) (l : List Nd) : List UInt8 := headT q f ++ (l.flatMap needT ++ [10])
def symT (q f : Nat) (a : List (List Nd)) : List UInt8 := a.flatMap (altT q f)
def rowT (q : Nat) : Nat → List (List (List Nd)) → List UInt8
  | _, [] => []
  | f, a :: r => symT q f a ++ rowT q (f + 1) r
def movT : Nat → Mv → List UInt8
  | _, [] => []
  | q, row :: r => rowT q 0 row ++ movT (q + 1) r
def tRanks : List UInt8 := [114, 97, 110, 107, 115]
def tStates : List UInt8 := [10, 115, 116, 97, 116, 101, 115, 32]
def tStart : List UInt8 := [32, 115, 116, 97, 114, 116, 32]
def secT (n st : Nat) : List UInt8 := tStates ++ (dg n ++ (tStart ++ (dg st ++ [10])))
def putL (rk : List Int) (st : Int) (M : Mv) : List UInt8 := tRanks ++ (ranksT rk ++ (secT M.length st.toNat ++ movT 0 M))
def putR (rk : List Int) (st : Int) (M : Mv) : List UInt8 × Int := if auB rk st M then (if 65536 < (putL rk st M).length then ([], 3) else (putL rk st M, 0)) else ([], 10)
theorem dg_len {n : Nat} (h : n < 100) : (dg n).length ≤ 2 := by
  have : ((List.range 100).all fun i => decide ((dg i).length ≤ 2)) = true := by kernel_rfl
  exact of_decide_eq_true (List.all_eq_true.1 this n (List.mem_range.2 h))
theorem flatMap_len {α : Type} {f : α → List UInt8} {c : Nat} (l : List α) (h : ∀ x ∈ l, (f x).length ≤ c) : (l.flatMap f).length ≤ l.length * c := by
  induction l with
  | nil => simp
  | cons a r ih =>
    rw [List.flatMap_cons, List.length_append, List.length_cons, Nat.succ_mul]
    have := h a (List.mem_cons_self ..)
    have := ih (fun x hx => h x (List.mem_cons_of_mem _ hx))
    omega
theorem rowT_len {q c : Nat} (row : List (List (List Nd))) : ∀ f, (∀ f' a, a ∈ row → f' < f + row.length → (symT q f' a).length ≤ c) → (rowT q f row).length ≤ row.length * c := by
  induction row with
  | nil => intro f _; simp [rowT]
  | cons a r ih =>
    intro f h
    rw [rowT, List.length_append, List.length_cons, Nat.succ_mul]
    have h1 := h f a (List.mem_cons_self ..) (by simp)
    have h2 := ih (f + 1) (fun f' a' ha hf => h f' a' (List.mem_cons_of_mem _ ha) (by rw [List.length_cons]; omega))
    omega
theorem movT_len {c : Nat} (M : Mv) : ∀ q, (∀ q' row, row ∈ M → q' < q + M.length → (rowT q' 0 row).length ≤ c) → (movT q M).length ≤ M.length * c := by
  induction M with
  | nil => intro q _; simp [movT]
  | cons a r ih =>
    intro q h
    rw [movT, List.length_append, List.length_cons, Nat.succ_mul]
    have h1 := h q a (List.mem_cons_self ..) (by simp)
    have h2 := ih (q + 1) (fun f' a' ha hf => h f' a' (List.mem_cons_of_mem _ ha) (by rw [List.length_cons]; omega))
    omega
structure AuOk (rk : List Int) (st : Int) (M : Mv) : Prop where
  nrk : rk.length ≤ 24
  rks : ∀ r ∈ rk, 0 ≤ r ∧ r ≤ 4
  nM1 : 1 ≤ M.length
  nM : M.length ≤ 6
  st0 : 0 ≤ st
  st1 : st < (M.length : Int)
  row : ∀ row ∈ M, row.length = rk.length
  alts : ∀ row ∈ M, ∀ a ∈ row, a.length ≤ 12
  lens : ∀ row ∈ M, ∀ a ∈ row, ∀ l ∈ a, l.length ≤ 24
  nds : ∀ row ∈ M, ∀ a ∈ row, ∀ l ∈ a, ∀ x ∈ l, 0 ≤ x.f0 ∧ x.f0 < 4 ∧ 0 ≤ x.f1 ∧ x.f1 < 6
theorem mem_getD {α : Type} {l : List α} {a d : α} (h : a ∈ l) : ∃ i, i < l.length ∧ l.getD i d = a := by
  obtain ⟨i, hi, he⟩ := List.mem_iff_getElem.1 h
  exact ⟨i, hi, by rw [List.getD_eq_getElem?_getD, List.getElem?_eq_getElem hi]; exact he⟩
theorem auOk {rk : List Int} {st : Int} {M : Mv} (h : auB rk st M = true) : AuOk rk st M := by
  unfold auB at h
  simp only [Bool.and_eq_true, decide_eq_true_eq] at h
  obtain ⟨⟨⟨⟨⟨h1, h2⟩, h3⟩, h4⟩, h5⟩, h6⟩ := h
  unfold ranksB at h1
  simp only [Bool.and_eq_true, decide_eq_true_eq, List.all_eq_true] at h1
  have hrow : ∀ row ∈ M, row.length = rk.length ∧ ∀ a ∈ row, ∃ r : Int, r ≤ 4 ∧ altsOk r (M.length : Int) a = true := by
    intro row hr
    have h7 := List.all_eq_true.1 h6 row hr
    unfold mrowOk at h7
    simp only [Bool.and_eq_true, decide_eq_true_eq, List.all_eq_true, List.mem_range] at h7
    refine ⟨h7.1, fun a ha => ?_⟩
    obtain ⟨f, hf, e⟩ := mem_getD (d := []) ha
    have h8 := h7.2 f (by omega)
    rw [e] at h8
    refine ⟨_, ?_, h8⟩
    exact (h1.1 _ (rd_mem (by omega))).2
  have hl : ∀ row ∈ M, ∀ a ∈ row, a.length ≤ 12 ∧ ∀ l ∈ a, l.length ≤ 24 ∧ ∀ x ∈ l, 0 ≤ x.f0 ∧ x.f0 < 4 ∧ 0 ≤ x.f1 ∧ x.f1 < 6 := by
    intro row hr a ha
    obtain ⟨r, hr4, h8⟩ := (hrow row hr).2 a ha
    unfold altsOk at h8
    simp only [Bool.and_eq_true, decide_eq_true_eq, List.all_eq_true] at h8
    refine ⟨h8.1.1, fun l hl => ?_⟩
    have h9 := h8.1.2 l hl
    unfold listOk at h9
    simp only [Bool.and_eq_true, decide_eq_true_eq, Bool.not_eq_true'] at h9
    refine ⟨h9.1.1, fun x hx => ?_⟩
    have h10 : nbad r (M.length : Int) x = false := by
      cases hb : nbad r (M.length : Int) x with
      | false => rfl
      | true => have := List.any_eq_true.2 ⟨x, hx, hb⟩; rw [h9.1.2] at this; cases this
    unfold nbad at h10
    simp only [Bool.or_eq_false_iff, decide_eq_false_iff_not] at h10
    omega
  exact ⟨by omega, fun r hr => h1.1 r hr, by omega, by omega, h4, h5, fun row hr => (hrow row hr).1, fun row hr a ha => (hl row hr a ha).1, fun row hr a ha l hl' => ((hl row hr a ha).2 l hl').1, fun row hr a ha l hl' => ((hl row hr a ha).2 l hl').2⟩
theorem putL_len {rk : List Int} {st : Int} {M : Mv} (h : AuOk rk st M) : (putL rk st M).length ≤ 1000000 := by
  have h1 : (ranksT rk).length ≤ rk.length * 3 := flatMap_len _ (fun r hr => by have := h.rks r hr; have := dg_len (n := r.toNat) (by omega); rw [List.length_cons]; omega)
  have h2 : (movT 0 M).length ≤ M.length * 100000 := movT_len M 0 (fun q row hr hq => by
    have h3 : (rowT q 0 row).length ≤ row.length * 2400 := rowT_len row 0 (fun f a ha hf => by
      have h4 : (symT q f a).length ≤ a.length * 200 := flatMap_len _ (fun l hl => by
        have h5 : (l.flatMap needT).length ≤ l.length * 6 := flatMap_len _ (fun x hx => by
          have h6 := h.nds row hr a ha l hl x hx
          have := dg_len (n := x.f0.toNat) (by omega); have := dg_len (n := x.f1.toNat) (by omega)
          unfold needT; simp only [List.length_cons, List.length_append]; omega)
        have h7 := h.lens row hr a ha l hl
        have := h.nM; have := h.nrk; have := h.row row hr
        have := dg_len (n := q) (by omega); have := dg_len (n := f) (by omega)
        unfold altT headT; simp only [List.length_cons, List.length_append, List.length_nil]; omega)
      have := h.alts row hr a ha
      omega)
    have := h.row row hr; have := h.nrk
    omega)
  have := h.nrk; have := h.nM; have := h.st1
  have := dg_len (n := M.length) (by omega); have := dg_len (n := st.toNat) (by omega)
  unfold putL secT tRanks tStates tStart; simp only [List.length_cons, List.length_append, List.length_nil]; omega
theorem movT_drop {M : Mv} {q : Nat} (h : q < M.length) : movT q (M.drop q) = rowT q 0 (M.getD q []) ++ movT (q + 1) (M.drop (q + 1)) := by
  rw [List.drop_eq_getElem_cons h, movT]
  simp [List.getD_eq_getElem?_getD, h]
theorem rowT_drop {q f : Nat} {row : List (List (List Nd))} (h : f < row.length) : rowT q f (row.drop f) = symT q f (row.getD f []) ++ rowT q (f + 1) (row.drop (f + 1)) := by
  rw [List.drop_eq_getElem_cons h, rowT]
  simp [List.getD_eq_getElem?_getD, h]
theorem flatMap_drop {α : Type} {g : α → List UInt8} {l : List α} {d : α} {i : Nat} (h : i < l.length) : (l.drop i).flatMap g = g (l.getD i d) ++ (l.drop (i + 1)).flatMap g := by
  rw [List.drop_eq_getElem_cons h, List.flatMap_cons]
  simp [List.getD_eq_getElem?_getD, h]
theorem bb_below {B b : Nat} {l : List UInt8} {W W1 : World} (h : BB B b l W) (hb : Below W.heap.size W W1) : BB B b l W1 := by
  have key : ∀ p, Lib.BuilderAt 76 5 B b p (Lib.byteCells l) W → Lib.BuilderAt 76 5 B b p (Lib.byteCells l) W1 := by
    rintro p ⟨h1, v, h2, h3, h4⟩
    exact ⟨h1, v, blk_below h2 hb, own_move h3 (fun k hk => hb.block k (own_lt h3 k hk)), h4⟩
  exact h.imp (key _) (key _)
theorem byteCells_app (a b : List UInt8) : Lib.byteCells (a ++ b) = Lib.byteCells a ++ Lib.byteCells b := by unfold Lib.byteCells; simp
theorem byteCells_len (a : List UInt8) : (Lib.byteCells a).length = a.length := by unfold Lib.byteCells; simp
theorem strCells_eq (s : ByteArray) : Lib.strCells s = Lib.byteCells s.data.toList := by
  unfold Lib.strCells Lib.byteCells
  rfl
structure PB (w : World) (b : Nat) (x y z : Value) (acc : List UInt8) (W : World) : Prop where
  hb : Below w.heap.size w W
  box : W.heap[w.heap.size]? = some (.cells #[x, y, z] 25 (0, 0))
  hlt : w.heap.size < b
  bb : BB b b acc W
  hbw : b ≤ W.heap.size
theorem PB.write {w W W1 : World} {b : Nat} {x y z : Value} {acc acc1 : List UInt8} (h : PB w b x y z acc W) (hb : Below b W W1) (hB : BB b b acc1 W1) : PB w b x y z acc1 W1 :=
  ⟨Below.trans h.hb (Below.mono hb (Nat.le_of_lt h.hlt)), (hb.block _ h.hlt).trans h.box, h.hlt, hB, Nat.le_trans h.hbw hb.size⟩
theorem PB.below {w W W1 : World} {b : Nat} {x y z : Value} {acc : List UInt8} (h : PB w b x y z acc W) (hb : Below W.heap.size W W1) : PB w b x y z acc W1 :=
  ⟨below_then h.hb h.hb.size hb, blk_below h.box hb, h.hlt, bb_below h.bb hb, Nat.le_trans h.hbw hb.size⟩
theorem ws_calls (b : Nat) (l : List UInt8) (s : ByteArray) (t : List UInt8) (w : World) (h : BB b b l w) (ht : s.data.toList = t) (hlen : l.length + t.length ≤ 140737488355328) (hBw : b ≤ w.heap.size) :
    Calls Tryz.prog 52 #[.pointer (some ⟨b, 0, none⟩), .string s] w fun e w' => e = .returned (.tuple #[.int .i64 s.size, .nilIface]) ∧ BB b b (l ++ t) w' ∧ Below b w w' := by
  refine (wstr_calls b b _ s w h (by rw [byteCells_len, Lib.size_eq, ht]; exact hlen) hBw).mono ?_
  rintro e w' ⟨rfl, h1, h2⟩
  refine ⟨rfl, .inr ?_, h2⟩
  rw [byteCells_app, ← ht, ← strCells_eq]
  exact h1
theorem wb_calls (b : Nat) (l : List UInt8) (w : World) (h : BB b b l w) (hlen : l.length + 1 ≤ 140737488355328) (hBw : b ≤ w.heap.size) :
    Calls Tryz.prog 54 #[.pointer (some ⟨b, 0, none⟩), .int .u8 10] w fun e w' => e = .returned .nilIface ∧ BB b b (l ++ [10]) w' ∧ Below b w w' := by
  refine (wbyte_calls b b _ 10 w h (by rw [byteCells_len]; exact hlen) hBw).mono ?_
  rintro e w' ⟨rfl, h1, h2⟩
  refine ⟨rfl, .inr ?_, h2⟩
  rw [byteCells_app]
  exact h1
theorem itoa_calls (n : Int) (h0 : 0 ≤ n) (h1 : n < 100) (w : World) : Calls Tryz.prog 53 #[.int .i64 n] w fun e w' => e = .returned (.string ⟨(dg n.toNat).toArray⟩) ∧ w' = w := by
  obtain ⟨k, rfl⟩ := Int.eq_ofNat_of_zero_le h0
  exact Tryz.strconv_Itoa_small k (by omega) w
end Go.Proofs.YtbmcigakiibncaaGreatDoor.H
namespace Go.Proofs.YtbmcigakiibncaaGreatDoor.H
open Go.RowKit
set_option linter.unusedVariables false
set_option linter.unusedSimpArgs false
theorem index_one_none {c : UInt8} : ∀ {p : List UInt8}, c ∉ p → Lib.index p [c] = -1
  | [], _ => rfl
  | b :: l, h => by
    have hb : ¬ c = b := fun e => h (e ▸ List.mem_cons_self ..)
    have hl : c ∉ l := fun hm => h (List.mem_cons_of_mem _ hm)
    rw [Lib.index, index_one_none hl]
    have e : List.isPrefixOf [c] (b :: l) = false := by simp [List.isPrefixOf, hb]
    rw [e]; rfl
theorem index_one_hit {c : UInt8} : ∀ {p r : List UInt8}, c ∉ p → Lib.index (p ++ c :: r) [c] = p.length
  | [], r, _ => by rw [List.nil_append, Lib.index]; simp [List.isPrefixOf]
  | b :: l, r, h => by
    have hb : ¬ c = b := fun e => h (e ▸ List.mem_cons_self ..)
    have hl : c ∉ l := fun hm => h (List.mem_cons_of_mem _ hm)
    rw [List.cons_append, Lib.index, index_one_hit hl]
    have e : List.isPrefixOf [c] (b :: (l ++ c :: r)) = false := by simp [List.isPrefixOf, hb]
    rw [e]
    have : (((l.length : Nat) : Int) == -1) = false := by rw [beq_eq_false_iff_ne]; omega
    rw [this]
    simp
theorem index_one_cases (c : UInt8) (l : List UInt8) : (c ∉ l ∧ Lib.index l [c] = -1) ∨ ∃ p r, c ∉ p ∧ l = p ++ c :: r ∧ Lib.index l [c] = p.length := by
  by_cases h : c ∈ l
  · right
    obtain ⟨p, r, rfl, hp⟩ : ∃ p r, l = p ++ c :: r ∧ c ∉ p := by
      induction l with
      | nil => cases h
      | cons a t ih =>
        by_cases e : c = a
        · exact ⟨[], t, by rw [e]; rfl, by simp⟩
        · rcases List.mem_cons.1 h with h | h
          · exact absurd h e
          · obtain ⟨p, r, rfl, hp⟩ := ih h
            exact ⟨a :: p, r, rfl, by simp [e, hp]⟩
    exact ⟨p, r, hp, rfl, index_one_hit hp⟩
  · exact .inl ⟨h, index_one_none h⟩
theorem indexByte_index (c : UInt8) : ∀ l : List UInt8, Lib.indexByte l c = Lib.index l [c]
  | [] => rfl
  | b :: l => by
    rw [Lib.indexByte, Lib.index, indexByte_index c l]
    by_cases h : b = c
    · subst h; simp [List.isPrefixOf]
    · have h2 : ¬ c = b := fun e => h e.symm
      have e : List.isPrefixOf [c] (b :: l) = false := by simp [List.isPrefixOf, h2]
      rw [e, beq_eq_false_iff_ne.2 h]
theorem cut_none {c : UInt8} {p : List UInt8} (h : c ∉ p) : Lib.cut p [c] = (p, [], false) := by
  unfold Lib.cut
  rw [index_one_none h, if_neg (by decide)]
theorem cut_hit {c : UInt8} {p r : List UInt8} (h : c ∉ p) : Lib.cut (p ++ c :: r) [c] = (p, r, true) := by
  unfold Lib.cut
  rw [index_one_hit h, if_pos (by omega)]
  simp
theorem cut_true {c : UInt8} {l : List UInt8} (h : (Lib.cut l [c]).2.2 = true) : c ∉ (Lib.cut l [c]).1 ∧ l = (Lib.cut l [c]).1 ++ c :: (Lib.cut l [c]).2.1 := by
  rcases index_one_cases c l with ⟨h1, _⟩ | ⟨p, r, hp, rfl, _⟩
  · rw [cut_none h1] at h; cases h
  · rw [cut_hit hp]; exact ⟨hp, rfl⟩
def joinC (c : UInt8) : List (List UInt8) → List UInt8
  | [] => []
  | [p] => p
  | p :: q :: r => p ++ c :: joinC c (q :: r)
theorem joinC_cons (c : UInt8) (p : List UInt8) {r : List (List UInt8)} (h : r ≠ []) : joinC c (p :: r) = p ++ c :: joinC c r := by
  cases r with
  | nil => exact absurd rfl h
  | cons q r => rfl
theorem splitK_join (c : UInt8) : ∀ (k : Nat) (l : List UInt8), Lib.count l [c] = k → Lib.splitK [c] 0 k l ≠ [] ∧ joinC c (Lib.splitK [c] 0 k l) = l ∧ ∀ p ∈ Lib.splitK [c] 0 k l, c ∉ p
  | 0, l, h => by
    rw [Lib.splitK]
    refine ⟨by simp, rfl, fun p hp => ?_⟩
    obtain rfl := List.mem_singleton.1 hp
    rcases index_one_cases c p with ⟨h1, _⟩ | ⟨q, r, hq, e, hi⟩
    · exact h1
    · have := Lib.count_hit (s := p) (sub := [c]) (i := q.length) (by simp) hi
      omega
  | k + 1, l, h => by
    rcases index_one_cases c l with ⟨h1, h2⟩ | ⟨q, r, hq, rfl, hi⟩
    · have := Lib.count_miss h2; omega
    · have hc := Lib.count_hit (s := q ++ c :: r) (sub := [c]) (i := q.length) (by simp) hi
      have e : (q ++ c :: r).drop (q.length + 1) = r := by simp
      rw [show [c].length = 1 from rfl, e] at hc
      obtain ⟨h1, h2, h3⟩ := splitK_join c k r (by omega)
      rw [Lib.splitK, hi]
      have hm : (((q.length : Nat) : Int) == -1) = false := by rw [beq_eq_false_iff_ne]; omega
      rw [hm]
      simp only [Bool.false_eq_true, if_false, Int.toNat_natCast, Nat.add_zero]
      rw [show [c].length = 1 from rfl, e, List.take_left]
      refine ⟨by simp, ?_, ?_⟩
      · rw [joinC_cons c q h1, h2]
      · intro p hp
        rcases List.mem_cons.1 hp with rfl | hp
        · exact hq
        · exact h3 p hp
theorem joinC_inj (c : UInt8) : ∀ {a b : List (List UInt8)}, a ≠ [] → b ≠ [] → (∀ p ∈ a, c ∉ p) → (∀ p ∈ b, c ∉ p) → joinC c a = joinC c b → a = b := by
  have cut2 : ∀ {p q r s : List UInt8}, c ∉ p → c ∉ q → p ++ c :: r = q ++ c :: s → p = q ∧ r = s := by
    intro p q r s hp hq h
    have h1 := cut_hit (r := r) hp
    rw [h, cut_hit hq] at h1
    simp only [Prod.mk.injEq, and_true] at h1
    exact ⟨h1.1.symm, h1.2.symm⟩
  intro a
  induction a with
  | nil => intro b h; exact absurd rfl h
  | cons p r ih =>
    intro b _ hb ha' hb' h
    cases b with
    | nil => exact absurd rfl hb
    | cons q s =>
      have hp := ha' p (List.mem_cons_self ..)
      have hq := hb' q (List.mem_cons_self ..)
      by_cases hr : r = []
      · subst hr
        by_cases hs : s = []
        · subst hs; simp only [joinC] at h; rw [h]
        · rw [joinC_cons c q hs] at h
          simp only [joinC] at h
          rw [h] at hp
          exact absurd (by simp) hp
      · rw [joinC_cons c p hr] at h
        by_cases hs : s = []
        · subst hs
          simp only [joinC] at h
          rw [← h] at hq
          exact absurd (by simp) hq
        · rw [joinC_cons c q hs] at h
          obtain ⟨rfl, h2⟩ := cut2 hp hq h
          rw [ih hr hs (fun p hp => ha' p (List.mem_cons_of_mem _ hp)) (fun p hp => hb' p (List.mem_cons_of_mem _ hp)) h2]
def chunksL (s : ByteArray) (c : UInt8) : List (List UInt8) := (chunks s c).map (·.data.toList)
theorem chunksL_spec (s : ByteArray) (c : UInt8) : chunksL s c ≠ [] ∧ joinC c (chunksL s c) = s.data.toList ∧ ∀ p ∈ chunksL s c, c ∉ p := by
  unfold chunksL chunks
  rw [Lib.splitB_data]
  exact splitK_join c _ _ rfl
theorem chunksL_iff {s : ByteArray} {c : UInt8} {ps : List (List UInt8)} (h0 : ps ≠ []) (h1 : ∀ p ∈ ps, c ∉ p) (h2 : joinC c ps = s.data.toList) : chunksL s c = ps := by
  obtain ⟨k0, k1, k2⟩ := chunksL_spec s c
  exact joinC_inj c k0 h0 k2 h1 (k1.trans h2.symm)
theorem bytes_ext {a b : ByteArray} (h : a.data.toList = b.data.toList) : a = b := by
  rcases a with ⟨⟨a⟩⟩; rcases b with ⟨⟨b⟩⟩; simp at h; rw [h]
theorem dg_one {n : Nat} (h : n < 10) : dg n = [UInt8.ofNat (48 + n)] := by unfold dg; rw [Lib.decDigits, dif_pos h]
theorem dg_big {n : Nat} (h : ¬ n < 10) : dg n = dg (n / 10) ++ [UInt8.ofNat (48 + n % 10)] := by unfold dg; rw [Lib.decDigits, dif_neg h]
theorem dg_ne (n : Nat) : dg n ≠ [] := by
  by_cases h : n < 10
  · rw [dg_one h]; simp
  · rw [dg_big h]; simp
theorem digs_of {d : Nat} (h : d < 10) : digs.contains (UInt8.ofNat (48 + d)) = true ∧ Lib.digitVal (UInt8.ofNat (48 + d)) = some d := by
  have : d = 0 ∨ d = 1 ∨ d = 2 ∨ d = 3 ∨ d = 4 ∨ d = 5 ∨ d = 6 ∨ d = 7 ∨ d = 8 ∨ d = 9 := by omega
  rcases this with rfl | rfl | rfl | rfl | rfl | rfl | rfl | rfl | rfl | rfl <;> exact ⟨by decide, by decide⟩
theorem digs_to {x : UInt8} (h : digs.contains x = true) : ∃ d, d < 10 ∧ x = UInt8.ofNat (48 + d) := by
  unfold digs at h
  simp only [List.contains_cons, List.contains_nil, Bool.or_false, Bool.or_eq_true, beq_iff_eq] at h
  rcases h with rfl | rfl | rfl | rfl | rfl | rfl | rfl | rfl | rfl | rfl
  · exact ⟨0, by decide, rfl⟩
  · exact ⟨1, by decide, rfl⟩
  · exact ⟨2, by decide, rfl⟩
  · exact ⟨3, by decide, rfl⟩
  · exact ⟨4, by decide, rfl⟩
  · exact ⟨5, by decide, rfl⟩
  · exact ⟨6, by decide, rfl⟩
  · exact ⟨7, by decide, rfl⟩
  · exact ⟨8, by decide, rfl⟩
  · exact ⟨9, by decide, rfl⟩
theorem dg_digs (n : Nat) : ∀ x ∈ dg n, digs.contains x = true := by
  induction n using Nat.strongRecOn with
  | ind n ih =>
    intro x hx
    by_cases h : n < 10
    · rw [dg_one h] at hx
      obtain rfl := List.mem_singleton.1 hx
      exact (digs_of h).1
    · rw [dg_big h] at hx
      rcases List.mem_append.1 hx with hx | hx
      · exact ih (n / 10) (by omega) x hx
      · obtain rfl := List.mem_singleton.1 hx
        exact (digs_of (Nat.mod_lt _ (by decide))).1
theorem dg_not {c : UInt8} (h : digs.contains c = false) (n : Nat) : c ∉ dg n := fun hm => by rw [dg_digs n c hm] at h; cases h
theorem dec_one {d : Nat} (h : d < 10) (acc : Nat) : Lib.decFrom acc [UInt8.ofNat (48 + d)] = some (acc * 10 + d) := by
  rw [Lib.decFrom, (digs_of h).2]; rfl
theorem decFrom_app (l : List UInt8) (x : UInt8) (d : Nat) (hx : Lib.digitVal x = some d) : ∀ acc n, Lib.decFrom acc l = some n → Lib.decFrom acc (l ++ [x]) = some (n * 10 + d) := by
  induction l with
  | nil => intro acc n h; simp only [Lib.decFrom, Option.some.injEq] at h; subst h; simp [Lib.decFrom, hx]
  | cons a t ih =>
    intro acc n h
    simp only [Lib.decFrom, List.cons_append] at h ⊢
    cases ha : Lib.digitVal a with
    | none => simp [ha] at h
    | some e => simp only [ha] at h ⊢; exact ih _ _ h
theorem dec_dg (n : Nat) : Lib.decFrom 0 (dg n) = some n := by
  induction n using Nat.strongRecOn with
  | ind n ih =>
    by_cases h : n < 10
    · rw [dg_one h, dec_one h]; congr 1; omega
    · rw [dg_big h, decFrom_app _ _ (n % 10) (digs_of (Nat.mod_lt _ (by decide))).2 0 (n / 10) (ih _ (by omega))]
      congr 1; omega
theorem dg_head {n : Nat} (h : 1 ≤ n) : (dg n).head? ≠ some 48 := by
  induction n using Nat.strongRecOn with
  | ind n ih =>
    by_cases h10 : n < 10
    · rw [dg_one h10]
      have : n = 1 ∨ n = 2 ∨ n = 3 ∨ n = 4 ∨ n = 5 ∨ n = 6 ∨ n = 7 ∨ n = 8 ∨ n = 9 := by omega
      rcases this with rfl | rfl | rfl | rfl | rfl | rfl | rfl | rfl | rfl <;> decide
    · rw [dg_big h10]
      have h1 := ih (n / 10) (by omega) (by omega)
      cases e : dg (n / 10) with
      | nil => exact absurd e (dg_ne _)
      | cons a t => rw [e] at h1; simpa using h1
theorem dg_length {n k : Nat} (hk : 1 ≤ k) (h : n < 10 ^ k) : (dg n).length ≤ k := by
  induction k generalizing n with
  | zero => omega
  | succ k ih =>
    by_cases h10 : n < 10
    · rw [dg_one h10]; simp
    · rw [dg_big h10, List.length_append]
      rw [Nat.pow_succ] at h
      have hk1 : 1 ≤ k := by
        rcases Nat.eq_zero_or_pos k with rfl | hk
        · simp at h; omega
        · exact hk
      have := ih hk1 (n := n / 10) (by omega)
      simp; omega
theorem dec_inv : ∀ (l : List UInt8), l ≠ [] → (∀ x ∈ l, digs.contains x = true) → l.head? ≠ some 48 → ∃ n, 1 ≤ n ∧ Lib.decFrom 0 l = some n ∧ dg n = l := by
  intro l
  generalize hk : l.length = k
  induction k generalizing l with
  | zero => intro h; exact absurd (List.length_eq_zero_iff.1 hk) h
  | succ k ih =>
    intro h0 hd hh
    obtain ⟨r, x, rfl⟩ : ∃ r x, l = r ++ [x] := ⟨l.dropLast, l.getLast h0, (List.dropLast_concat_getLast h0).symm⟩
    obtain ⟨d, hd10, rfl⟩ := digs_to (hd x (by simp))
    by_cases hr : r = []
    · subst hr
      refine ⟨d, ?_, ?_, dg_one hd10⟩
      · rcases Nat.eq_zero_or_pos d with rfl | h
        · exact absurd rfl hh
        · exact h
      · rw [List.nil_append, dec_one hd10]; congr 1; omega
    · obtain ⟨n, h1, h2, h3⟩ := ih r (by simpa using hk) hr (fun x hx => hd x (by simp [hx])) (by
        cases r with
        | nil => exact absurd rfl hr
        | cons a t => simpa using hh)
      refine ⟨n * 10 + d, by omega, decFrom_app _ _ d (digs_of hd10).2 0 n h2, ?_⟩
      rw [dg_big (by omega), show (n * 10 + d) / 10 = n by omega, show (n * 10 + d) % 10 = d by omega, h3]
theorem trimS_all {l : List UInt8} (h : ∀ x ∈ l, digs.contains x = true) : Lib.trimS l digs = [] := by
  have dw : ∀ l : List UInt8, (∀ x ∈ l, digs.contains x = true) → l.dropWhile (digs.contains ·) = [] := by
    intro l
    induction l with
    | nil => intro _; rfl
    | cons a t ih =>
      intro h
      rw [List.dropWhile_cons, if_pos (h a (List.mem_cons_self ..))]
      exact ih fun x hx => h x (List.mem_cons_of_mem _ hx)
  unfold Lib.trimS Lib.trimLeftS Lib.trimRightS
  rw [dw l.reverse (fun x hx => h x (List.mem_reverse.1 hx))]
  rfl
theorem atoi_dg (n : Nat) : Lib.atoi (dg n) = some (n : Int) := by
  have hd := dec_dg n
  cases e : dg n with
  | nil => exact absurd e (dg_ne n)
  | cons a r =>
    obtain ⟨d, _, _, h45, h43⟩ := digit_val (dg_digs n a (by rw [e]; exact List.mem_cons_self ..))
    rw [e] at hd
    rw [Lib.atoi, if_neg (by simpa using h45), if_neg (by simpa using h43)]
    unfold Lib.decNat
    rw [if_neg (by simp), hd]
    rfl
theorem num_dg {n : Nat} (h : n ≤ 1000000000) : numOk (dg n) = true ∧ num0V (dg n) = n := by
  have hb : numBad (dg n) = false := by
    unfold numBad
    rw [decide_eq_false (dg_ne n), decide_eq_false (by have := dg_length (n := n) (k := 10) (by decide) (by omega); omega), decide_eq_true (trimS_all (dg_digs n))]
    by_cases h10 : n < 10
    · rw [dg_one h10]; simp
    · rw [decide_eq_false (dg_head (show 1 ≤ n by omega))]; rfl
  have hv := numV_eq (atoi_dg n)
  obtain ⟨h1, h2⟩ := num_good hb
  exact ⟨by rw [h2, h1, hv]; exact decide_eq_true (by omega), by rw [h1, hv]⟩
theorem num_inv {l : List UInt8} (h : numOk l = true) : ∃ n : Nat, n ≤ 1000000000 ∧ l = dg n ∧ num0V l = n := by
  have hb : numBad l = false := by
    unfold numOk at h
    simp only [Bool.and_eq_true, Bool.not_eq_true'] at h
    exact h.1
  obtain ⟨n, hl⟩ : ∃ n, l = dg n := by
    have hb2 := hb
    unfold numBad at hb2
    simp only [Bool.or_eq_false_iff, decide_eq_false_iff_not, Bool.not_eq_false', decide_eq_true_eq] at hb2
    obtain ⟨⟨⟨h1, h2⟩, h3⟩, h4⟩ := hb2
    have hall := trimS_nil h4
    by_cases hh : l.head? = some 48
    · have hlen : ¬ 1 < l.length := by
        intro hc
        rw [decide_eq_true hh, decide_eq_true hc] at h3
        cases h3
      cases l with
      | nil => exact absurd rfl h1
      | cons a r =>
        have : r = [] := by cases r with | nil => rfl | cons b r => simp at hlen
        subst this
        simp at hh
        subst hh
        exact ⟨0, by rw [dg_one (by decide)]; rfl⟩
    · obtain ⟨n, _, _, e⟩ := dec_inv l h1 hall hh
      exact ⟨n, e.symm⟩
  subst hl
  obtain ⟨h1, h2⟩ := num_good hb
  have hv := numV_eq (atoi_dg n)
  rw [h1, hv] at h2
  rw [h2] at h
  exact ⟨n, by have := of_decide_eq_true h; omega, rfl, by rw [h1, hv]⟩
end Go.Proofs.YtbmcigakiibncaaGreatDoor.H
namespace Go.Proofs.YtbmcigakiibncaaGreatDoor.H
open Go.RowKit
set_option linter.unusedVariables false
set_option linter.unusedSimpArgs false
def NdOk (x : Nd) : Prop := ∃ a b : Nat, a ≤ 1000000000 ∧ b ≤ 1000000000 ∧ x = ⟨(a : Int), (b : Int)⟩
theorem needT_of (a b : Nat) : needT (⟨(a : Int), (b : Int)⟩ : Nd) = 32 :: (dg a ++ 46 :: dg b) := rfl
theorem alt_of : ∀ (z : List Nd) (k : Nat), (z.flatMap needT).length < k → (∀ y ∈ z, NdOk y) → altV k (z.flatMap needT) = some z := by
  intro z
  induction z with
  | nil =>
    intro k hk _
    cases k with
    | zero => simp at hk
    | succ k => rw [List.flatMap_nil, altV, if_pos rfl]
  | cons y r ih =>
    intro k hk hz
    obtain ⟨a, b, ha, hb, rfl⟩ := hz y (List.mem_cons_self ..)
    rw [List.flatMap_cons, needT_of] at hk ⊢
    generalize hw : r.flatMap needT = w at *
    have hw0 : w = [] ∨ ∃ v, w = 32 :: v := by
      cases r with
      | nil => left; rw [← hw]; rfl
      | cons y2 r2 => right; rw [← hw, List.flatMap_cons]; exact ⟨_, rfl⟩
    have hx : altX (32 :: (dg a ++ 46 :: dg b) ++ w) = (dg a ++ 46 :: dg b) ++ w := by
      unfold altX Lib.trimPrefix Lib.hasPrefix
      rw [if_pos (by simp [List.isPrefixOf])]
      simp
    have h32 : (32 : UInt8) ∉ dg a ++ 46 :: dg b := by
      intro h
      rcases List.mem_append.1 h with h | h
      · exact dg_not (by decide) a h
      · rcases List.mem_cons.1 h with h | h
        · exact absurd h (by decide)
        · exact dg_not (by decide) b h
    have hn : altN (32 :: (dg a ++ 46 :: dg b) ++ w) = (dg a ++ 46 :: dg b).length := by
      unfold altN
      rw [hx, indexByte_index]
      rcases hw0 with rfl | ⟨v, rfl⟩
      · rw [List.append_nil, index_one_none h32, if_pos (by decide)]
      · rw [index_one_hit h32, if_neg (by omega)]; rfl
    have ht : (altX (32 :: (dg a ++ 46 :: dg b) ++ w)).take (altN (32 :: (dg a ++ 46 :: dg b) ++ w)) = dg a ++ 46 :: dg b := by
      rw [hn, hx, List.take_left]
    have hr : altR (32 :: (dg a ++ 46 :: dg b) ++ w) = w := by
      unfold altR
      rw [hn, hx, List.drop_left]
    have hc : altC (32 :: (dg a ++ 46 :: dg b) ++ w) = (dg a, dg b, true) := by
      unfold altC
      rw [ht, cut_hit (dg_not (by decide) a)]
    have hg : altGo (32 :: (dg a ++ 46 :: dg b) ++ w) = true := by
      unfold altGo
      rw [hc]
      simp only [(num_dg ha).1, (num_dg hb).1, Bool.and_true]
      simp [Lib.hasPrefix, List.isPrefixOf]
    have he : altE (32 :: (dg a ++ 46 :: dg b) ++ w) = ⟨(a : Int), (b : Int)⟩ := by
      unfold altE
      rw [hc]
      simp only [(num_dg ha).2, (num_dg hb).2]
    cases k with
    | zero => simp at hk
    | succ k =>
      rw [altV, if_neg (by simp), if_pos hg, hr, he]
      have hlen : w.length < k := by simp only [List.length_append, List.length_cons] at hk; omega
      rw [ih k hlen (fun y hy => hz y (List.mem_cons_of_mem _ hy))]
      rfl
theorem alt_inv : ∀ (k : Nat) (l : List UInt8) (z : List Nd), altV k l = some z → l = z.flatMap needT ∧ ∀ y ∈ z, NdOk y := by
  intro k
  induction k with
  | zero => intro l z h; cases h
  | succ k ih =>
    intro l z h
    rw [altV] at h
    by_cases hl : l = []
    · rw [if_pos hl] at h
      obtain rfl := Option.some.inj h
      exact ⟨hl, fun y hy => by cases hy⟩
    · rw [if_neg hl] at h
      cases hg : altGo l with
      | false => rw [hg] at h; cases h
      | true =>
        rw [hg, if_pos rfl] at h
        cases hv : altV k (altR l) with
        | none => rw [hv] at h; cases h
        | some zr =>
          rw [hv] at h
          obtain rfl := Option.some.inj h
          obtain ⟨e, hok⟩ := ih _ _ hv
          unfold altGo at hg
          simp only [Bool.and_eq_true] at hg
          obtain ⟨⟨⟨g1, g2⟩, g3⟩, g4⟩ := hg
          obtain ⟨a, ha, ea, va⟩ := num_inv g3
          obtain ⟨b, hb, eb, vb⟩ := num_inv g4
          have hx : l = 32 :: altX l := by
            cases l with
            | nil => exact absurd rfl hl
            | cons c r =>
              have g0 : (32 == c && List.isPrefixOf [] r) = true := g1
              have : c = 32 := by rw [Bool.and_eq_true, beq_iff_eq] at g0; exact g0.1.symm
              subst this
              unfold altX Lib.trimPrefix
              rw [if_pos g1]; rfl
          have hc : (altX l).take (altN l) = dg a ++ 46 :: dg b := by
            have h1 := (cut_true (l := (altX l).take (altN l)) (c := 46) g2).2
            rw [h1]
            show (altC l).1 ++ 46 :: (altC l).2.1 = _
            rw [ea, eb]
          have hE : altE l = ⟨(a : Int), (b : Int)⟩ := by unfold altE; rw [va, vb]
          refine ⟨?_, fun y hy => ?_⟩
          · rw [List.flatMap_cons, hE, needT_of, ← e]
            show l = 32 :: (dg a ++ 46 :: dg b) ++ altR l
            rw [← hc]
            unfold altR
            rw [List.cons_append, List.take_append_drop]
            exact hx
          · rcases List.mem_cons.1 hy with rfl | hy
            · exact ⟨a, b, ha, hb, hE⟩
            · exact hok y hy
abbrev Ln := Nat × Nat × List Nd
def lineT (x : Ln) : List UInt8 := headT x.1 x.2.1 ++ x.2.2.flatMap needT
def LnOk (x : Ln) : Prop := x.1 ≤ 1000000000 ∧ x.2.1 ≤ 1000000000 ∧ ∀ y ∈ x.2.2, NdOk y
theorem headT_eq (q f : Nat) (w : List UInt8) : headT q f ++ w = (dg q ++ 32 :: dg f) ++ 58 :: w := by
  unfold headT; simp
theorem head_no58 (q f : Nat) : (58 : UInt8) ∉ dg q ++ 32 :: dg f := by
  intro h
  rcases List.mem_append.1 h with h | h
  · exact dg_not (by decide) q h
  · rcases List.mem_cons.1 h with h | h
    · exact absurd h (by decide)
    · exact dg_not (by decide) f h
theorem line_of {s : ByteArray} {x : Ln} (hs : s.data.toList = lineT x) (h : LnOk x) : lnGo s = true ∧ lnQ s = x.1 ∧ lnF s = x.2.1 ∧ lnZ s = some x.2.2 := by
  obtain ⟨q, f, z⟩ := x
  obtain ⟨h1, h2, h3⟩ := h
  have e1 : lnAt s = (dg q ++ 32 :: dg f, z.flatMap needT, true) := by
    unfold lnAt
    rw [hs]
    unfold lineT
    rw [headT_eq, cut_hit (head_no58 q f)]
  have e2 : lnXY s = (dg q, dg f, true) := by
    unfold lnXY
    rw [e1, cut_hit (dg_not (by decide) q)]
  refine ⟨?_, ?_, ?_, ?_⟩
  · unfold lnGo; rw [e1, e2]; simp only [(num_dg h1).1, (num_dg h2).1]; rfl
  · unfold lnQ; rw [e2]; exact (num_dg h1).2
  · unfold lnF; rw [e2]; exact (num_dg h2).2
  · unfold lnZ; rw [e1]; exact alt_of z _ (Nat.lt_succ_self _) h3
theorem line_inv {s : ByteArray} {z : List Nd} (hg : lnGo s = true) (hz : lnZ s = some z) : ∃ q f : Nat, s.data.toList = lineT (q, f, z) ∧ LnOk (q, f, z) := by
  unfold lnGo at hg
  simp only [Bool.and_eq_true] at hg
  obtain ⟨⟨⟨g1, g2⟩, g3⟩, g4⟩ := hg
  obtain ⟨q, hq, eq, _⟩ := num_inv g3
  obtain ⟨f, hf, ef, _⟩ := num_inv g4
  have h1 := (cut_true (l := s.data.toList) (c := 58) g1).2
  have h2 := (cut_true (l := (lnAt s).1) (c := 32) g2).2
  obtain ⟨e, hok⟩ := alt_inv _ _ _ hz
  refine ⟨q, f, ?_, hq, hf, hok⟩
  unfold lineT
  rw [headT_eq, ← e, ← eq, ← ef]
  have h2' : (lnXY s).1 ++ 32 :: (lnXY s).2.1 = (lnAt s).1 := h2.symm
  rw [h2']
  exact h1
def pstep (states m : Nat) : List Ln → Int → Mv → Option Mv
  | [], _, M => some M
  | x :: r, last, M => if x.1 < states ∧ x.2.1 < m ∧ last ≤ ((x.1 * m + x.2.1 : Nat) : Int) then pstep states m r ((x.1 * m + x.2.1 : Nat) : Int) (if x.1 < M.length then addAlt M x.1 x.2.1 x.2.2 else M) else none
theorem gstep_of (states m : Nat) : ∀ (ls : List Ln) (Ls : List ByteArray) (last : Int) (M : Mv), Ls.map (·.data.toList) = ls.map lineT → (∀ x ∈ ls, LnOk x) → gstep (states : Int) m Ls last M = pstep states m ls last M := by
  intro ls
  induction ls with
  | nil =>
    intro Ls last M h _
    cases Ls with
    | nil => rfl
    | cons s r => simp at h
  | cons x r ih =>
    intro Ls last M h hok
    cases Ls with
    | nil => simp at h
    | cons s Lr =>
      simp only [List.map_cons, List.cons.injEq] at h
      obtain ⟨h1, h2, h3, h4⟩ := line_of h.1 (hok x (List.mem_cons_self ..))
      rw [gstep, pstep, h1, h4, Bool.true_and]
      have hc : lnOk (states : Int) (m : Int) last s = decide (x.1 < states ∧ x.2.1 < m ∧ last ≤ ((x.1 * m + x.2.1 : Nat) : Int)) := by
        unfold lnOk
        rw [h2, h3]
        rw [Bool.eq_iff_iff]
        simp only [Bool.not_eq_true', Bool.or_eq_false_iff, decide_eq_false_iff_not, decide_eq_true_eq]
        have e : ((x.1 * m + x.2.1 : Nat) : Int) = (x.1 : Int) * (m : Int) + (x.2.1 : Int) := by simp
        rw [e]
        constructor
        · rintro ⟨⟨a, b⟩, c⟩; exact ⟨by omega, by omega, by omega⟩
        · rintro ⟨a, b, c⟩; exact ⟨⟨by omega, by omega⟩, by omega⟩
      rw [hc, h2, h3]
      simp only [decide_eq_true_eq, Int.toNat_natCast]
      have e : (x.1 : Int) * (m : Int) + (x.2.1 : Int) = ((x.1 * m + x.2.1 : Nat) : Int) := by simp
      rw [e]
      have e2 : ((x.1 : Int) < (M.length : Int)) = (x.1 < M.length) := by simp
      simp only [e2]
      split
      · exact ih Lr _ _ h.2 fun y hy => hok y (List.mem_cons_of_mem _ hy)
      · rfl
theorem gstep_inv (states m : Int) : ∀ (Ls : List ByteArray) (last : Int) (M M' : Mv) (k : Nat), m = (k : Int) → gstep states k Ls last M = some M' → ∃ ls : List Ln, Ls.map (·.data.toList) = ls.map lineT ∧ ∀ x ∈ ls, LnOk x := by
  intro Ls
  induction Ls with
  | nil => intro last M M' k _ h; exact ⟨[], rfl, fun x hx => by cases hx⟩
  | cons s r ih =>
    intro last M M' k hk h
    rw [gstep] at h
    cases hc : (lnGo s && lnOk states k last s) with
    | false => rw [hc] at h; cases h
    | true =>
      rw [hc, if_pos rfl] at h
      cases hz : lnZ s with
      | none => rw [hz] at h; cases h
      | some z =>
        rw [hz] at h
        rw [Bool.and_eq_true] at hc
        obtain ⟨q, f, e, hok⟩ := line_inv hc.1 hz
        obtain ⟨ls, h1, h2⟩ := ih _ _ _ k hk h
        refine ⟨(q, f, z) :: ls, by rw [List.map_cons, List.map_cons, e, h1], fun x hx => ?_⟩
        rcases List.mem_cons.1 hx with rfl | hx
        · exact hok
        · exact h2 x hx
def linesT (ls : List Ln) : List UInt8 := ls.flatMap fun x => altT x.1 x.2.1 x.2.2
def gramT (rk : List Int) (states st : Nat) (ls : List Ln) : List UInt8 := tRanks ++ (ranksT rk ++ (secT states st ++ linesT ls))
structure GramOk (rk : List Int) (states st : Nat) (ls : List Ln) : Prop where
  hr : ∀ r ∈ rk, ∃ n : Nat, n ≤ 1000000000 ∧ r = (n : Int)
  hs : states ≤ 1000000000
  ht : st ≤ 1000000000
  hl : ∀ x ∈ ls, LnOk x
def gramV (rk : List Int) (states st : Nat) (ls : List Ln) : Option (List Int × Int × Mv) := (pstep states rk.length ls (-1) (List.replicate (min states 7) (List.replicate rk.length []))).map fun M => (rk, (st : Int), M)
theorem altT_line (x : Ln) : altT x.1 x.2.1 x.2.2 = lineT x ++ [10] := by unfold altT lineT; simp
theorem joinC_end (c : UInt8) : ∀ ps : List (List UInt8), joinC c (ps ++ [[]]) = ps.flatMap (· ++ [c])
  | [] => rfl
  | p :: r => by
    rw [List.cons_append, joinC_cons c p (by simp), joinC_end c r, List.flatMap_cons]
    simp
theorem joinC_head (c : UInt8) : ∀ (ps : List (List UInt8)) (p : List UInt8), joinC c (p :: ps) = p ++ ps.flatMap (c :: ·)
  | [], p => by simp [joinC]
  | q :: r, p => by
    rw [joinC_cons c p (by simp), joinC_head c r q, List.flatMap_cons]
    simp
def tSt : List UInt8 := [115, 116, 97, 116, 101, 115]
def tSa : List UInt8 := [115, 116, 97, 114, 116]
def firstT (rk : List Int) : List UInt8 := tRanks ++ ranksT rk
def secondT (states st : Nat) : List UInt8 := tSt ++ 32 :: (dg states ++ 32 :: (tSa ++ 32 :: dg st))
theorem first_join (rk : List Int) : joinC 32 (tRanks :: rk.map fun r => dg r.toNat) = firstT rk := by
  rw [joinC_head]
  unfold firstT ranksT
  congr 1
  induction rk with
  | nil => rfl
  | cons a r ih => simp only [List.map_cons, List.flatMap_cons, ih]
theorem second_join (states st : Nat) : joinC 32 [tSt, dg states, tSa, dg st] = secondT states st := rfl
theorem whole_join (rk : List Int) (states st : Nat) (ls : List Ln) : joinC 10 (firstT rk :: secondT states st :: ls.map lineT ++ [[]]) = gramT rk states st ls := by
  rw [joinC_end]
  simp only [List.flatMap_cons]
  have e : (ls.map lineT).flatMap (· ++ [10]) = linesT ls := by
    unfold linesT
    induction ls with
    | nil => rfl
    | cons x r ih => rw [List.map_cons, List.flatMap_cons, List.flatMap_cons, ih, altT_line]
  rw [e]
  unfold gramT firstT secondT secT
  simp [tStates, tStart, tSt, tSa]
theorem need_no10 {z : List Nd} (h : ∀ y ∈ z, NdOk y) : (10 : UInt8) ∉ z.flatMap needT := by
  intro hm
  obtain ⟨y, hy, h1⟩ := List.mem_flatMap.1 hm
  obtain ⟨a, b, _, _, rfl⟩ := h y hy
  rw [needT_of] at h1
  rcases List.mem_cons.1 h1 with h1 | h1
  · exact absurd h1 (by decide)
  · rcases List.mem_append.1 h1 with h1 | h1
    · exact dg_not (by decide) a h1
    · rcases List.mem_cons.1 h1 with h1 | h1
      · exact absurd h1 (by decide)
      · exact dg_not (by decide) b h1
theorem line_no10 {x : Ln} (h : LnOk x) : (10 : UInt8) ∉ lineT x := by
  unfold lineT
  rw [headT_eq]
  intro hm
  rcases List.mem_append.1 hm with hm | hm
  · rcases List.mem_append.1 hm with hm | hm
    · exact dg_not (by decide) _ hm
    · rcases List.mem_cons.1 hm with hm | hm
      · exact absurd hm (by decide)
      · exact dg_not (by decide) _ hm
  · rcases List.mem_cons.1 hm with hm | hm
    · exact absurd hm (by decide)
    · exact need_no10 h.2.2 hm
theorem first_no10 (rk : List Int) : (10 : UInt8) ∉ firstT rk := by
  unfold firstT ranksT
  intro hm
  rcases List.mem_append.1 hm with hm | hm
  · exact absurd hm (by decide)
  · obtain ⟨y, hy, h1⟩ := List.mem_flatMap.1 hm
    rcases List.mem_cons.1 h1 with h1 | h1
    · exact absurd h1 (by decide)
    · exact dg_not (by decide) _ h1
theorem second_no10 (states st : Nat) : (10 : UInt8) ∉ secondT states st := by
  unfold secondT
  intro hm
  rcases List.mem_append.1 hm with hm | hm
  · exact absurd hm (by decide)
  · rcases List.mem_cons.1 hm with hm | hm
    · exact absurd hm (by decide)
    · rcases List.mem_append.1 hm with hm | hm
      · exact dg_not (by decide) _ hm
      · rcases List.mem_cons.1 hm with hm | hm
        · exact absurd hm (by decide)
        · rcases List.mem_append.1 hm with hm | hm
          · exact absurd hm (by decide)
          · rcases List.mem_cons.1 hm with hm | hm
            · exact absurd hm (by decide)
            · exact dg_not (by decide) _ hm
theorem getD_data (L : List ByteArray) (i : Nat) : (L.getD i ByteArray.empty).data.toList = (L.map (·.data.toList)).getD i [] := by
  rw [List.getD_eq_getElem?_getD, List.getD_eq_getElem?_getD, List.getElem?_map]
  cases L[i]? <;> rfl
theorem all_okW (l : List ByteArray) : l.all okW = (l.map (·.data.toList)).all numOk := by rw [List.all_map]; rfl
theorem map_valW (l : List ByteArray) : l.map valW = (l.map (·.data.toList)).map num0V := by rw [List.map_map]; rfl
theorem map_cons_inv {L : List ByteArray} {p : List UInt8} {ps : List (List UInt8)} (h : L.map (·.data.toList) = p :: ps) : ∃ s r, L = s :: r ∧ s.data.toList = p ∧ r.map (·.data.toList) = ps := by
  cases L with
  | nil => simp at h
  | cons s r => simp only [List.map_cons, List.cons.injEq] at h; exact ⟨s, r, rfl, h.1, h.2⟩
theorem sRanks_data : sRanks.data.toList = tRanks := rfl
theorem sStates_data : sStates.data.toList = tSt := rfl
theorem sStart_data : sStart.data.toList = tSa := rfl
theorem getV_gram {t : ByteArray} {rk : List Int} {states st : Nat} {ls : List Ln} (h : GramOk rk states st ls) (ht : t.data.toList = gramT rk states st ls) : getV t = gramV rk states st ls := by
  have hL : (chunks t 10).map (·.data.toList) = firstT rk :: secondT states st :: ls.map lineT ++ [[]] := by
    refine chunksL_iff (by simp) ?_ (by rw [whole_join, ht])
    intro p hp
    simp only [List.cons_append, List.mem_cons, List.mem_append, List.mem_map, List.mem_singleton, List.not_mem_nil, or_false] at hp
    rcases hp with rfl | rfl | ⟨x, hx, rfl⟩ | rfl
    · exact first_no10 rk
    · exact second_no10 states st
    · exact line_no10 (h.hl x hx)
    · simp
  have hlen : (chunks t 10).length = ls.length + 3 := by
    have := congrArg List.length hL
    simpa using this
  have hlast : (chunks t 10).getD ((chunks t 10).length - 1) ByteArray.empty = ByteArray.empty := by
    apply bytes_ext
    rw [getD_data, hL, hlen]
    show _ = []
    rw [List.getD_eq_getElem?_getD, show ls.length + 3 - 1 = (firstT rk :: secondT states st :: ls.map lineT).length by simp, List.getElem?_append_right (Nat.le_refl _)]
    simp
  have ha : (chunks ((chunks t 10).getD 0 ByteArray.empty) 32).map (·.data.toList) = tRanks :: rk.map fun r => dg r.toNat := by
    refine chunksL_iff (by simp) ?_ ?_
    · intro p hp
      rcases List.mem_cons.1 hp with rfl | hp
      · decide
      · obtain ⟨r, _, rfl⟩ := List.mem_map.1 hp
        exact dg_not (by decide) _
    · rw [first_join, getD_data, hL]; rfl
  have hb : (chunks ((chunks t 10).getD 1 ByteArray.empty) 32).map (·.data.toList) = [tSt, dg states, tSa, dg st] := by
    refine chunksL_iff (by simp) ?_ ?_
    · intro p hp
      simp only [List.mem_cons, List.not_mem_nil, or_false] at hp
      rcases hp with rfl | rfl | rfl | rfl
      · decide
      · exact dg_not (by decide) _
      · decide
      · exact dg_not (by decide) _
    · rw [second_join, getD_data, hL]; rfl
  unfold getV
  simp only []
  rw [if_pos ⟨by omega, hlast⟩]
  obtain ⟨s, r, ea, e1, e2⟩ := map_cons_inv ha
  obtain ⟨x1, b1, eb, f1, g1⟩ := map_cons_inv hb
  obtain ⟨x2, b2, rfl, f2, g2⟩ := map_cons_inv g1
  obtain ⟨x3, b3, rfl, f3, g3⟩ := map_cons_inv g2
  obtain ⟨x4, b4, rfl, f4, g4⟩ := map_cons_inv g3
  obtain rfl : b4 = [] := by simpa using g4
  rw [ea, eb]
  obtain rfl : s = sRanks := bytes_ext e1
  obtain rfl : x1 = sStates := bytes_ext f1
  obtain rfl : x3 = sStart := bytes_ext f3
  have hok : r.all okW = true := by
    rw [all_okW, e2, List.all_eq_true]
    intro p hp
    obtain ⟨z, hz, rfl⟩ := List.mem_map.1 hp
    obtain ⟨n, hn, rfl⟩ := h.hr z hz
    exact (num_dg hn).1
  have hval : r.map valW = rk := by
    rw [map_valW, e2, List.map_map]
    have : ∀ z ∈ rk, (num0V ∘ fun (r : Int) => dg r.toNat) z = z := by
      intro z hz
      obtain ⟨n, hn, rfl⟩ := h.hr z hz
      exact (num_dg hn).2
    rw [List.map_congr_left this]; simp
  have k2 : okW x2 = true ∧ valW x2 = states := by unfold okW valW; rw [f2]; exact num_dg h.hs
  have k4 : okW x4 = true ∧ valW x4 = st := by unfold okW valW; rw [f4]; exact num_dg h.ht
  have hsec : secOk [x2, sStart, x4] = true := by unfold secOk; simp [k2.1, k4.1]
  rw [if_pos ⟨rfl, by simpa using hok, rfl, by simpa using hsec⟩]
  simp only [List.drop_succ_cons, List.drop_zero, List.getD_cons_succ, List.getD_cons_zero]
  rw [hval, k2.2, k4.2]
  have hm : (((chunks t 10).drop 2).take ((chunks t 10).length - 3)).map (·.data.toList) = ls.map lineT := by
    rw [List.map_take, List.map_drop, hL, hlen]
    simp only [List.cons_append, List.drop_succ_cons, List.drop_zero, Nat.add_sub_cancel]
    rw [List.take_left' (by simp)]
  rw [gstep_of states rk.length ls _ _ _ hm h.hl]
  unfold gramV
  have e7 : (min (states : Int) 7).toNat = min states 7 := by omega
  rw [e7]
theorem okW_list : ∀ r : List ByteArray, r.all okW = true → ∃ rk : List Int, r.map (·.data.toList) = rk.map (fun z => dg z.toNat) ∧ ∀ z ∈ rk, ∃ n : Nat, n ≤ 1000000000 ∧ z = (n : Int)
  | [], _ => ⟨[], rfl, fun z hz => by cases hz⟩
  | s :: r, q2 => by
    rw [List.all_cons, Bool.and_eq_true] at q2
    obtain ⟨rk, h1, h2⟩ := okW_list r q2.2
    obtain ⟨n, hn, e, _⟩ := num_inv (l := s.data.toList) q2.1
    refine ⟨(n : Int) :: rk, by rw [List.map_cons, List.map_cons, h1, e]; rfl, fun z hz => ?_⟩
    rcases List.mem_cons.1 hz with rfl | hz
    · exact ⟨n, hn, rfl⟩
    · exact h2 z hz
theorem getV_inv {t : ByteArray} {v : List Int × Int × Mv} (hv : getV t = some v) : ∃ rk states st ls, GramOk rk states st ls ∧ t.data.toList = gramT rk states st ls := by
  unfold getV at hv
  simp only [] at hv
  split at hv
  case isFalse => cases hv
  case isTrue h0 =>
  obtain ⟨h3, hlast⟩ := h0
  split at hv
  case isFalse => cases hv
  case isTrue h1 =>
  obtain ⟨q1, q2, q3, q4⟩ := h1
  cases hg : gstep (valW ((chunks ((chunks t 10).getD 1 ByteArray.empty) 32).getD 1 ByteArray.empty)) (((chunks ((chunks t 10).getD 0 ByteArray.empty) 32).drop 1).map valW).length (((chunks t 10).drop 2).take ((chunks t 10).length - 3)) (-1) (List.replicate (min (valW ((chunks ((chunks t 10).getD 1 ByteArray.empty) 32).getD 1 ByteArray.empty)) 7).toNat (List.replicate (((chunks ((chunks t 10).getD 0 ByteArray.empty) 32).drop 1).map valW).length [])) with
  | none => rw [hg] at hv; cases hv
  | some M' =>
  obtain ⟨ls, hls, hok⟩ := gstep_inv _ _ _ _ _ _ _ rfl hg
  clear hg hv
  obtain ⟨_, hjoin, _⟩ := chunksL_spec t 10
  obtain ⟨_, hja, _⟩ := chunksL_spec ((chunks t 10).getD 0 ByteArray.empty) 32
  obtain ⟨_, hjb, _⟩ := chunksL_spec ((chunks t 10).getD 1 ByteArray.empty) 32
  unfold chunksL at hjoin hja hjb
  generalize hca : chunks ((chunks t 10).getD 0 ByteArray.empty) 32 = a at *
  generalize hcb : chunks ((chunks t 10).getD 1 ByteArray.empty) 32 = b at *
  generalize chunks t 10 = L at *
  -- the first line
  obtain ⟨r, rfl⟩ : ∃ r, a = sRanks :: r := by
    cases a with
    | nil => cases q1
    | cons s r => simp at q1; exact ⟨r, by rw [q1]⟩
  simp only [List.drop_succ_cons, List.drop_zero] at q2
  obtain ⟨rk, hrk, hrn⟩ := okW_list r q2
  rw [List.map_cons, hrk, sRanks_data, first_join] at hja
  -- the second line
  obtain ⟨b1, rfl⟩ : ∃ b1, b = sStates :: b1 := by
    cases b with
    | nil => cases q3
    | cons s r => simp at q3; exact ⟨r, by rw [q3]⟩
  simp only [List.drop_succ_cons, List.drop_zero] at q4
  obtain ⟨x, y, rfl, hx, hy⟩ : ∃ x y, b1 = [x, sStart, y] ∧ okW x = true ∧ okW y = true := by
    unfold secOk at q4
    split at q4
    · rename_i x m y
      simp only [Bool.and_eq_true, decide_eq_true_eq] at q4
      exact ⟨x, y, by rw [q4.1.1], q4.1.2, q4.2⟩
    · cases q4
  obtain ⟨states, hsn, es, _⟩ := num_inv (l := x.data.toList) hx
  obtain ⟨st, htn, et, _⟩ := num_inv (l := y.data.toList) hy
  simp only [List.map_cons, List.map_nil, sStates_data, sStart_data, es, et] at hjb
  rw [second_join] at hjb
  -- the whole
  refine ⟨rk, states, st, ls, ⟨hrn, hsn, htn, hok⟩, ?_⟩
  rw [← whole_join, ← hjoin]
  congr 1
  rw [getD_data] at hja hjb
  obtain ⟨p0, p1, mid, z, rfl⟩ : ∃ p0 p1 mid z, L = p0 :: p1 :: mid ++ [z] := by
    match L, h3 with
    | p0 :: p1 :: p2 :: rest, _ =>
      exact ⟨p0, p1, (p2 :: rest).dropLast, (p2 :: rest).getLast (by simp), by rw [List.cons_append, List.cons_append, List.dropLast_concat_getLast]⟩
  have hz : z = ByteArray.empty := by
    rw [List.getD_eq_getElem?_getD, show (p0 :: p1 :: mid ++ [z]).length - 1 = (p0 :: p1 :: mid).length by simp, List.getElem?_append_right (Nat.le_refl _)] at hlast
    simpa using hlast
  have hmid : ((p0 :: p1 :: mid ++ [z]).drop 2).take ((p0 :: p1 :: mid ++ [z]).length - 3) = mid := by
    simp
  rw [hmid] at hls
  subst hz
  have hja' : firstT rk = p0.data.toList := hja
  have hjb' : secondT states st = p1.data.toList := hjb
  rw [List.map_append, List.map_cons, List.map_cons, hls, ← hja', ← hjb']
  rfl
end Go.Proofs.YtbmcigakiibncaaGreatDoor.H
namespace Go.Proofs.YtbmcigakiibncaaGreatDoor.H
open Go.RowKit Go.Proofs.YtbmcigakiibncaaGreatDoorW.PrintWords Go.Proofs.YtbmcigakiibncaaGreatDoorW.PrintLast Go.Proofs.YtbmcigakiibncaaGreatDoorW.PrintMore
set_option linter.unusedVariables false
set_option linter.unusedSimpArgs false
def kRow (m : Nat) : Kd Nat := Kd.scalar (fun g => .slice (some ⟨g, 0, none⟩) m m) (fun _ => rfl)
theorem R_other {α : Type} {d : Kd α} {e : Nat} {w w1 : World} {base : Nat} {ok : Nat → Prop} {v : Value} {xs : List α} (h : d.R e w base ok v xs) (b : Nat) (hb : v.ownBlock ≠ some b)
    (ht : ∀ q ∈ d.E, ∀ cells, w.heap[b]? ≠ some (.cells cells q (0, 0))) (hm : ∀ k, k ≠ b → k < w.heap.size → w1.heap[k]? = w.heap[k]?) : d.R e w1 base ok v xs := by
  obtain ⟨h0, inner, ho, hr⟩ := h
  refine ⟨h0, inner, own_move ho (fun k hk => hm k (fun hkb => hb (by rw [hk, hkb])) (own_lt ho k hk)), hr.imp_ (fun _ _ hp => ?_)⟩
  refine d.M_mono (fun k hk => hk.1) (d.M_move (fun k hk => ?_) (d.M_bound hp))
  obtain ⟨_, _, hlt, q, hq, cells, hc⟩ := hk
  exact hm k (fun hkb => ht q hq cells (by rw [← hkb]; exact hc)) hlt
theorem R_same {α : Type} {d : Kd α} {e : Nat} {w w1 : World} {base : Nat} {ok : Nat → Prop} {v : Value} {xs : List α} (h : d.R e w base ok v xs) (hm : ∀ k, ok k → k < w.heap.size → w1.heap[k]? = w.heap[k]?) : d.R e w1 base ok v xs := Kd.R_step h hm
structure MM (b0 B : Nat) (W : World) (v : Value) (M : Mv) (m : Nat) (gs : List Nat) (u : Nat → Nat → Value) : Prop where
  len : gs.length = M.length
  row : (kRow m).R 65 W b0 (fun k => B ≤ k) v gs
  rows : ∀ q, q < M.length → B ≤ gs.getD q 0 ∧ W.heap[gs.getD q 0]? = some (.cells ((List.range m).map (u q)).toArray 66 (0, 0)) ∧ (M.getD q []).length = m
  inj : ∀ q q', q < M.length → q' < M.length → q ≠ q' → gs.getD q 0 ≠ gs.getD q' 0
  alts : ∀ q f, q < M.length → f < m → kA1.R 69 W b0 (fun k => B ≤ k) (u q f) ((M.getD q []).getD f [])
  sep : ∀ q f q' f', q < M.length → f < m → q' < M.length → f' < m → (q ≠ q' ∨ f ≠ f') → ∀ k, (u q f).ownBlock = some k → (u q' f').ownBlock ≠ some k
theorem MM.start (b0 B : Nat) (W : World) (m : Nat) : MM b0 B W (.slice none 0 0) [] m [] (fun _ _ => .slice none 0 0) :=
  ⟨rfl, Kd.R_nil _ _ _ _ _, fun _ h => absurd h (Nat.not_lt_zero _), fun _ _ h => absurd h (Nat.not_lt_zero _), fun _ _ h => absurd h (Nat.not_lt_zero _), fun _ _ _ _ h => absurd h (Nat.not_lt_zero _)⟩
theorem MM.move {b0 B : Nat} {W W1 : World} {v : Value} {M : Mv} {m : Nat} {gs : List Nat} {u : Nat → Nat → Value} (h : MM b0 B W v M m gs u) (hm : ∀ k, B ≤ k → k < W.heap.size → W1.heap[k]? = W.heap[k]?) : MM b0 B W1 v M m gs u :=
  ⟨h.len, R_same h.row hm, fun q hq => ⟨(h.rows q hq).1, (hm _ (h.rows q hq).1 (blk_lt (h.rows q hq).2.1)).trans (h.rows q hq).2.1, (h.rows q hq).2.2⟩, h.inj, fun q f hq hf => R_same (h.alts q f hq hf) hm, h.sep⟩
theorem MM.below {b0 B : Nat} {W W1 : World} {v : Value} {M : Mv} {m : Nat} {gs : List Nat} {u : Nat → Nat → Value} (h : MM b0 B W v M m gs u) (hb : Below W.heap.size W W1) : MM b0 B W1 v M m gs u := h.move fun k _ hk => hb.block k hk
theorem MM.far {b0 B : Nat} {W : World} {v : Value} {M : Mv} {m : Nat} {gs : List Nat} {u : Nat → Nat → Value} (h : MM b0 B W v M m gs u) {a j : Nat} (ha : a < B) (x : Value) : MM b0 B (W.setCell ⟨a, j, none⟩ x) v M m gs u :=
  h.move fun k hk _ => Below.heap_setCell W ⟨a, j, none⟩ x k (by show k ≠ a; omega)
theorem ownBlock_typed {α : Type} {d : Kd α} {e : Nat} {w : World} {base : Nat} {ok : Nat → Prop} {v : Value} {xs : List α} (h : d.R e w base ok v xs) {k : Nat} (hk : v.ownBlock = some k) : (∃ cells, w.heap[k]? = some (.cells cells e (0, 0))) ∧ k < w.heap.size := by
  obtain ⟨_, inner, ho, _⟩ := h
  exact ⟨own_typed ho k hk, own_lt ho k hk⟩
theorem types_ne {w : World} {a b : Nat} {ca cb : Array Value} {ta tb : Nat} {x : Nat × Nat} (ha : w.heap[a]? = some (.cells ca ta x)) (hb : w.heap[b]? = some (.cells cb tb x)) (h : ta ≠ tb) : a ≠ b := by
  intro e
  subst e
  rw [ha] at hb
  injection hb with hb
  injection hb with _ h2 _
  exact h h2
theorem getD_app {α : Type} (l : List α) (x d : α) (q : Nat) : (l ++ [x]).getD q d = if q = l.length then x else l.getD q d := by
  by_cases h : q = l.length
  · subst h; simp
  · rw [if_neg h]
    by_cases h2 : q < l.length
    · simp [List.getD_eq_getElem?_getD, List.getElem?_append_left h2]
    · have h3 : l.length + 1 ≤ q := by omega
      simp [List.getD_eq_getElem?_getD, List.getElem?_eq_none (show (l ++ [x]).length ≤ q by simp; omega), List.getElem?_eq_none (show l.length ≤ q by omega)]
theorem MM.push {b0 B : Nat} {W W1 : World} {v v1 : Value} {M : Mv} {m : Nat} {gs : List Nat} {u : Nat → Nat → Value} (h : MM b0 B W v M m gs u) (g : Nat) (hg : W.heap[g]? = some (.cells (Array.replicate m (.slice none 0 0)) 66 (0, 0))) (hgB : B ≤ g) (hnew : ∀ q, q < M.length → gs.getD q 0 ≠ g)
    (hr : (kRow m).R 65 W1 b0 (fun k => B ≤ k) v1 (gs ++ [g])) (hw : W.grownBy W1 v.ownBlock) : MM b0 B W1 v1 (M ++ [List.replicate m []]) m (gs ++ [g]) (fun q f => if q = M.length then .slice none 0 0 else u q f) := by
  have ho : ∀ k, v.ownBlock = some k → ∃ cells, W.heap[k]? = some (.cells cells 65 (0, 0)) := fun k hk => (ownBlock_typed h.row hk).1
  have hkeep : ∀ (k : Nat) (cells : Array Value) (t : Nat), W.heap[k]? = some (Obj.cells cells t (0, 0)) → t ≠ 65 → W1.heap[k]? = some (Obj.cells cells t (0, 0)) := by
    intro k cells t hk ht
    refine blk_grown hk hw (fun e => ?_)
    obtain ⟨c2, h2⟩ := ho k e.symm
    exact types_ne hk h2 ht rfl
  have hlen : (M ++ [List.replicate m ([] : List (List Nd))]).length = M.length + 1 := by simp
  have hd : ∀ q, (gs ++ [g]).getD q 0 = if q = M.length then g else gs.getD q 0 := fun q => by rw [getD_app, h.len]
  have hMd : ∀ q, (M ++ [List.replicate m ([] : List (List Nd))]).getD q [] = if q = M.length then List.replicate m [] else M.getD q [] := fun q => getD_app _ _ _ _
  refine ⟨by simp [h.len], hr, fun q hq => ?_, fun q q' hq hq' hne => ?_, fun q f hq hf => ?_, fun q f q' f' hq hf hq' hf' hne k hk => ?_⟩
  · rw [hd, hMd]
    by_cases e : q = M.length
    · rw [if_pos e, if_pos e]
      refine ⟨hgB, ?_, by simp⟩
      have : ((List.range m).map fun f => if q = M.length then (Value.slice none 0 0) else u q f).toArray = Array.replicate m (.slice none 0 0) := by
        simp only [if_pos e]
        apply Array.ext <;> simp
      rw [this]
      exact hkeep _ _ _ hg (by decide)
    · rw [if_neg e, if_neg e]
      have hq2 : q < M.length := by omega
      have : ((List.range m).map fun f => if q = M.length then (Value.slice none 0 0) else u q f).toArray = ((List.range m).map (u q)).toArray := by simp only [if_neg e]
      rw [this]
      exact ⟨(h.rows q hq2).1, hkeep _ _ _ (h.rows q hq2).2.1 (by decide), (h.rows q hq2).2.2⟩
  · rw [hd, hd]
    by_cases e : q = M.length <;> by_cases e' : q' = M.length
    · omega
    · rw [if_pos e, if_neg e']; exact fun x => hnew q' (by omega) x.symm
    · rw [if_neg e, if_pos e']; exact hnew q (by omega)
    · rw [if_neg e, if_neg e']; exact h.inj q q' (by omega) (by omega) hne
  · rw [hMd]
    by_cases e : q = M.length
    · simp only [if_pos e]
      rw [show (List.replicate m ([] : List (List Nd))).getD f [] = [] by simp [List.getD_eq_getElem?_getD, hf]]
      exact Kd.R_nil _ _ _ _ _
    · simp only [if_neg e]
      have h1 := h.alts q f (by omega) hf
      cases hob : v.ownBlock with
      | none => exact R_same h1 (fun k hk hlt => hw.block k hlt (by rw [hob]; exact fun x => by cases x))
      | some b =>
        obtain ⟨cb, hcb⟩ := ho b hob
        refine R_other h1 b (fun x => ?_) (fun t ht cells hc => ?_) (fun k hk hlt => hw.block k hlt (by rw [hob]; exact fun x => hk (Option.some.inj x)))
        · obtain ⟨⟨c2, h2⟩, _⟩ := ownBlock_typed h1 x
          exact types_ne h2 hcb (by decide) rfl
        · have : t = 83 := by simpa [kA1, Kd.slice, Q.k83, Kd.iso, Kd.pair, Kd.int, Kd.scalar] using ht
          exact types_ne hc hcb (by rw [this]; decide) rfl
  · by_cases e : q = M.length
    · rw [if_pos e] at hk; cases hk
    · rw [if_neg e] at hk
      by_cases e' : q' = M.length
      · rw [if_pos e']; exact fun x => by cases x
      · rw [if_neg e']
        exact h.sep q f q' f' (by omega) hf (by omega) hf' hne k hk
theorem addAlt_len (M : Mv) (q f : Nat) (z : List Nd) : (addAlt M q f z).length = M.length := by unfold addAlt; simp
theorem addAlt_row {M : Mv} {q f : Nat} {z : List Nd} (hq : q < M.length) (q' : Nat) : (addAlt M q f z).getD q' [] = if q' = q then (M.getD q []).set f ((M.getD q []).getD f [] ++ [z]) else M.getD q' [] := by
  unfold addAlt
  by_cases e : q' = q
  · rw [if_pos e, e]; simp [List.getD_eq_getElem?_getD, hq]
  · rw [if_neg e]
    simp [List.getD_eq_getElem?_getD, List.getElem?_set, if_neg (fun h : q = q' => e h.symm)]
theorem setD {α : Type} {l : List α} {f : Nat} (hf : f < l.length) (x d : α) (f' : Nat) : (l.set f x).getD f' d = if f' = f then x else l.getD f' d := by
  by_cases e : f' = f
  · rw [if_pos e, e]; simp [List.getD_eq_getElem?_getD, hf]
  · rw [if_neg e]
    simp [List.getD_eq_getElem?_getD, List.getElem?_set, if_neg (fun h : f = f' => e h.symm)]
theorem MM.add {b0 B : Nat} {W W1 : World} {v : Value} {M : Mv} {m : Nat} {gs : List Nat} {u : Nat → Nat → Value} (h : MM b0 B W v M m gs u) {q f : Nat} (hq : q < M.length) (hf : f < m) (z : List Nd) (v1 : Value)
    (hr : kA1.R 69 W1 b0 (fun k => B ≤ k) v1 ((M.getD q []).getD f [] ++ [z])) (hw : W.grownBy W1 (u q f).ownBlock) (hat : v1.ownBlock = (u q f).ownBlock ∨ ∃ b, v1.ownBlock = some b ∧ W.heap.size ≤ b) :
    MM b0 B (W1.setCell ⟨gs.getD q 0, f, none⟩ v1) v (addAlt M q f z) m gs (fun a b => if a = q ∧ b = f then v1 else u a b) := by
  have hrq := h.rows q hq
  have hown : ∀ k, (u q f).ownBlock = some k → ∃ cells, W.heap[k]? = some (Obj.cells cells 69 (0, 0)) := fun k hk => (ownBlock_typed (h.alts q f hq hf) hk).1
  have hkeep : ∀ (k : Nat) (cells : Array Value) (t : Nat), W.heap[k]? = some (Obj.cells cells t (0, 0)) → t ≠ 69 → W1.heap[k]? = some (Obj.cells cells t (0, 0)) := by
    intro k cells t hk ht
    refine blk_grown hk hw (fun e => ?_)
    obtain ⟨c2, h2⟩ := hown k e.symm
    exact types_ne hk h2 ht rfl
  have hg1 := hkeep _ _ _ hrq.2.1 (by decide)
  have hset : ∀ k, k ≠ gs.getD q 0 → (W1.setCell ⟨gs.getD q 0, f, none⟩ v1).heap[k]? = W1.heap[k]? := fun k hk => Below.heap_setCell W1 _ _ k hk
  have h83 : ∀ t ∈ kA1.E, t = 83 := fun t ht => by simpa [kA1, Kd.slice, Q.k83, Kd.iso, Kd.pair, Kd.int, Kd.scalar] using ht
  have hsize : W.heap.size ≤ W1.heap.size := hw.size
  refine ⟨by rw [addAlt_len]; exact h.len, ?_, fun a ha => ?_, fun a a' ha ha' hne => h.inj a a' (by rw [addAlt_len] at ha; exact ha) (by rw [addAlt_len] at ha'; exact ha') hne, fun a b ha hb => ?_, fun a b a' b' ha hb ha' hb' hne k hk => ?_⟩
  · have h1 : (kRow m).R 65 W1 b0 (fun k => B ≤ k) v gs := by
      cases hob : (u q f).ownBlock with
      | none => exact R_same h.row (fun k hk hlt => hw.block k hlt (by rw [hob]; exact fun x => by cases x))
      | some b =>
        obtain ⟨cb, hcb⟩ := hown b hob
        refine R_other h.row b (fun x => ?_) (fun t ht => by simp [kRow, Kd.scalar] at ht) (fun k hk hlt => hw.block k hlt (by rw [hob]; exact fun x => hk (Option.some.inj x)))
        obtain ⟨⟨c2, h2⟩, _⟩ := ownBlock_typed h.row x
        exact types_ne h2 hcb (by decide) rfl
    refine R_other h1 (gs.getD q 0) (fun x => ?_) (fun t ht => by simp [kRow, Kd.scalar] at ht) (fun k hk _ => hset k hk)
    obtain ⟨⟨c2, h2⟩, _⟩ := ownBlock_typed h1 x
    exact types_ne h2 hg1 (by decide) rfl
  · rw [addAlt_len] at ha
    have hra := h.rows a ha
    rw [addAlt_row hq]
    by_cases e : a = q
    · subst e
      rw [if_pos rfl]
      refine ⟨hra.1, ?_, by rw [List.length_set]; exact hra.2.2⟩
      have h1 := blk_set hg1 f v1
      rw [h1]
      congr 1
      have : (((List.range m).map (u a)).toArray).setIfInBounds f v1 = ((List.range m).map fun b => if a = a ∧ b = f then v1 else u a b).toArray := by
        apply Array.ext
        · simp
        · intro i hi1 hi2
          by_cases hif : f = i
          · subst hif; simp
          · simp [List.getElem_set]
            rw [if_neg hif, if_neg (fun x => hif x.symm)]
      rw [this]
    · rw [if_neg e]
      refine ⟨hra.1, ?_, hra.2.2⟩
      rw [hset _ (h.inj a q ha hq e)]
      have : ((List.range m).map fun b => if a = q ∧ b = f then v1 else u a b).toArray = ((List.range m).map (u a)).toArray := by simp [e]
      rw [this]
      exact hkeep _ _ _ hra.2.1 (by decide)
  · rw [addAlt_len] at ha
    rw [addAlt_row hq]
    have hfar : ∀ {x : Value} {xs : List (List Nd)}, kA1.R 69 W1 b0 (fun k => B ≤ k) x xs → kA1.R 69 (W1.setCell ⟨gs.getD q 0, f, none⟩ v1) b0 (fun k => B ≤ k) x xs := by
      intro x xs hx
      refine R_other hx (gs.getD q 0) (fun y => ?_) (fun t ht cells hc => ?_) (fun k hk _ => hset k hk)
      · obtain ⟨⟨c2, h2⟩, _⟩ := ownBlock_typed hx y
        exact types_ne h2 hg1 (by decide) rfl
      · exact types_ne hc hg1 (by rw [h83 t ht]; decide) rfl
    by_cases e : a = q ∧ b = f
    · obtain ⟨rfl, rfl⟩ := e
      rw [if_pos rfl, if_pos ⟨rfl, rfl⟩, setD (by rw [hrq.2.2]; exact hf), if_pos rfl]
      exact hfar hr
    · rw [if_neg e]
      have e2 : (if a = q then (M.getD q []).set f ((M.getD q []).getD f [] ++ [z]) else M.getD a []).getD b [] = (M.getD a []).getD b [] := by
        by_cases ea : a = q
        · subst ea
          rw [if_pos rfl, setD (by rw [hrq.2.2]; exact hf), if_neg (fun x => e ⟨rfl, x⟩)]
        · rw [if_neg ea]
      rw [e2]
      have h1 := h.alts a b ha hb
      refine hfar ?_
      cases hob : (u q f).ownBlock with
      | none => exact R_same h1 (fun k hk hlt => hw.block k hlt (by rw [hob]; exact fun x => by cases x))
      | some b0 =>
        obtain ⟨cb, hcb⟩ := hown b0 hob
        refine R_other h1 b0 (fun x => ?_) (fun t ht cells hc => ?_) (fun k hk hlt => hw.block k hlt (by rw [hob]; exact fun x => hk (Option.some.inj x)))
        · exact h.sep q f a b hq hf ha hb (by by_cases ea : q = a; exact .inr (fun x => e ⟨ea.symm, x.symm⟩); exact .inl ea) b0 hob x
        · exact types_ne hc hcb (by rw [h83 t ht]; decide) rfl
  · rw [addAlt_len] at ha ha'
    have hold : ∀ a b, a < M.length → b < m → ∀ k, (u a b).ownBlock = some k → k < W.heap.size := fun a b ha hb k hk => (ownBlock_typed (h.alts a b ha hb) hk).2
    by_cases e : a = q ∧ b = f
    · rw [if_pos e] at hk
      have e' : ¬ (a' = q ∧ b' = f) := fun x => by omega
      rw [if_neg e']
      rcases hat with hat | ⟨b0, hb0, hle⟩
      · rw [hat] at hk
        exact h.sep q f a' b' hq hf ha' hb' (by omega) k hk
      · rw [hb0] at hk
        injection hk with hk
        intro hk'
        have := hold a' b' ha' hb' k hk'
        omega
    · rw [if_neg e] at hk
      by_cases e' : a' = q ∧ b' = f
      · rw [if_pos e']
        intro hk'
        rcases hat with hat | ⟨b0, hb0, hle⟩
        · rw [hat] at hk'
          exact h.sep a b q f ha hb hq hf (by omega) k hk hk'
        · rw [hb0] at hk'
          injection hk' with hk'
          have := hold a b ha hb k hk
          omega
      · rw [if_neg e']
        exact h.sep a b a' b' ha hb ha' hb' hne k hk
theorem MM.reads {b0 B : Nat} {W : World} {v : Value} {M : Mv} {m : Nat} {gs : List Nat} {u : Nat → Nat → Value} (h : MM b0 B W v M m gs u) (hm : m ≤ 9223372036854775807) : ∃ A c, v = .slice A M.length c ∧ M.length ≤ c ∧ Kd.C kA3 W A M.length M := by
  obtain ⟨A, c, rfl⟩ := Kd.R_slice h.row
  have hr := Kd.R_reads' h.row
  refine ⟨A, c, by rw [h.len], by rw [← h.len]; exact hr.2.1, ?_⟩
  have hC := hr.2.2
  rw [h.len] at hC
  obtain ⟨h1, h2, h3⟩ := hC
  refine ⟨rfl, h2, fun h0 => ?_⟩
  obtain ⟨ad, e, hcell⟩ := h3 h0
  refine ⟨ad, e, fun j p hj => ?_⟩
  obtain ⟨hjl, hjp⟩ := List.getElem?_eq_some_iff.1 hj
  obtain ⟨cs, hcs, hK, hx⟩ := hcell j (gs.getD j 0) (by have : j < gs.length := by rw [h.len]; exact hjl
                                                        simp [List.getD_eq_getElem?_getD, this])
  have hrow := h.rows j hjl
  have hp : M.getD j [] = p := by rw [← hjp]; simp [List.getD_eq_getElem?_getD, hjl]
  rw [hp] at hrow
  refine ⟨cs, hcs, ⟨some ⟨gs.getD j 0, 0, none⟩, m, ?_, Nat.le_of_eq hrow.2.2, ⟨rfl, by rw [hrow.2.2]; exact hm, fun _ => ⟨_, rfl, fun i al hi => ?_⟩⟩⟩, hx⟩
  · rw [hrow.2.2]; exact hK
  · obtain ⟨hil, hip⟩ := List.getElem?_eq_some_iff.1 hi
    have him : i < m := by rw [← hrow.2.2]; exact hil
    have hR := h.alts j i hjl him
    rw [hp, show p.getD i [] = al by rw [← hip]; simp [List.getD_eq_getElem?_getD, hil]] at hR
    obtain ⟨A2, c2, e2⟩ := Kd.R_slice hR
    rw [e2] at hR
    have hr2 := Kd.R_reads' hR
    refine ⟨[u j i], rfl, ⟨A2, c2, by rw [e2], hr2.2.1, hr2.2.2⟩, fun x y hy => ?_⟩
    have hx0 : x = 0 := by
      have := (List.getElem?_eq_some_iff.1 hy).1
      simpa using this
    subst hx0
    obtain rfl : u j i = y := by simpa using hy
    have hc := blk_cell hrow.2.1 i
    have e3 : (Addr.add ⟨gs.getD j 0, 0, none⟩ (i * kA2.sz + 0)) = ⟨gs.getD j 0, i, none⟩ := by
      rw [show kA2.sz = 1 from rfl, Nat.mul_one, Nat.add_zero]
      simp [Addr.add]
      exact fun h => h.symm
    rw [e3, hc]
    simp [him]
end Go.Proofs.YtbmcigakiibncaaGreatDoor.H
namespace Go.Proofs.YtbmcigakiibncaaGreatDoor.H
open Go.RowKit
set_option linter.unusedVariables false
set_option linter.unusedSimpArgs false
def symL (q f : Nat) (a : List (List Nd)) : List Ln := a.map fun z => (q, f, z)
def rowL (q : Nat) : Nat → List (List (List Nd)) → List Ln
  | _, [] => []
  | f, a :: r => symL q f a ++ rowL q (f + 1) r
def movL : Nat → Mv → List Ln
  | _, [] => []
  | q, r :: R => rowL q 0 r ++ movL (q + 1) R
theorem symT_L (q f : Nat) (a : List (List Nd)) : linesT (symL q f a) = symT q f a := by
  unfold linesT symL symT
  rw [List.flatMap_map]
theorem linesT_app (a b : List Ln) : linesT (a ++ b) = linesT a ++ linesT b := by unfold linesT; rw [List.flatMap_append]
theorem rowT_L (q : Nat) : ∀ (row : List (List (List Nd))) (f : Nat), linesT (rowL q f row) = rowT q f row
  | [], f => rfl
  | a :: r, f => by rw [rowL, linesT_app, symT_L, rowT_L q r, rowT]
theorem movT_L : ∀ (M : Mv) (q : Nat), linesT (movL q M) = movT q M
  | [], q => rfl
  | r :: R, q => by rw [movL, linesT_app, rowT_L, movT_L R, movT]
theorem putL_gram (rk : List Int) (st : Int) (M : Mv) : putL rk st M = gramT rk M.length st.toNat (movL 0 M) := by
  unfold putL gramT
  rw [movT_L]
def leK (x y : Ln) : Prop := x.1 < y.1 ∨ x.1 = y.1 ∧ x.2.1 ≤ y.2.1
def atK (q f : Nat) (x : Ln) : Bool := x.1 == q && x.2.1 == f
theorem atK_iff {q f : Nat} {x : Ln} : atK q f x = true ↔ x.1 = q ∧ x.2.1 = f := by unfold atK; simp
theorem leK_refl (x : Ln) : leK x x := .inr ⟨rfl, Nat.le_refl _⟩
theorem sorted_unique : ∀ {a b : List Ln}, a.Pairwise leK → b.Pairwise leK → (∀ q f, a.filter (atK q f) = b.filter (atK q f)) → a = b := by
  intro a
  induction a with
  | nil =>
    intro b _ _ h
    cases b with
    | nil => rfl
    | cons y r =>
      have := h y.1 y.2.1
      rw [List.filter_nil, List.filter_cons, if_pos (atK_iff.2 ⟨rfl, rfl⟩)] at this
      cases this
  | cons x a ih =>
    intro b ha hb h
    cases b with
    | nil =>
      have := h x.1 x.2.1
      rw [List.filter_nil, List.filter_cons, if_pos (atK_iff.2 ⟨rfl, rfl⟩)] at this
      cases this
    | cons y b =>
      have h1 : leK y x := by
        have e := h x.1 x.2.1
        rw [List.filter_cons, if_pos (atK_iff.2 ⟨rfl, rfl⟩)] at e
        have hm : x ∈ (y :: b).filter (atK x.1 x.2.1) := by rw [← e]; exact List.mem_cons_self ..
        rcases List.mem_cons.1 (List.mem_filter.1 hm).1 with rfl | hm
        · exact leK_refl _
        · exact (List.pairwise_cons.1 hb).1 x hm
      have h2 : leK x y := by
        have e := h y.1 y.2.1
        rw [List.filter_cons (x := y), if_pos (atK_iff.2 ⟨rfl, rfl⟩)] at e
        have hm : y ∈ (x :: a).filter (atK y.1 y.2.1) := by rw [e]; exact List.mem_cons_self ..
        rcases List.mem_cons.1 (List.mem_filter.1 hm).1 with rfl | hm
        · exact leK_refl _
        · exact (List.pairwise_cons.1 ha).1 y hm
      have e1 : x.1 = y.1 ∧ x.2.1 = y.2.1 := by unfold leK at h1 h2; omega
      have e := h x.1 x.2.1
      rw [List.filter_cons, if_pos (atK_iff.2 ⟨rfl, rfl⟩), List.filter_cons, if_pos (atK_iff.2 ⟨e1.1.symm, e1.2.symm⟩)] at e
      obtain ⟨rfl, _⟩ := List.cons.inj e
      congr 1
      refine ih (List.pairwise_cons.1 ha).2 (List.pairwise_cons.1 hb).2 fun q f => ?_
      have e3 := h q f
      rw [List.filter_cons, List.filter_cons] at e3
      split at e3
      · exact (List.cons.inj e3).2
      · exact e3
theorem rowL_mem {q : Nat} : ∀ {row : List (List (List Nd))} {f : Nat} {x : Ln}, x ∈ rowL q f row → x.1 = q ∧ f ≤ x.2.1 ∧ x.2.1 < f + row.length ∧ x.2.2 ∈ row.getD (x.2.1 - f) []
  | [], f, x, h => by cases h
  | a :: r, f, x, h => by
    rw [rowL] at h
    rcases List.mem_append.1 h with h | h
    · obtain ⟨z, hz, rfl⟩ := List.mem_map.1 h
      exact ⟨rfl, Nat.le_refl _, by simp, by simpa using hz⟩
    · obtain ⟨h1, h2, h3, h4⟩ := rowL_mem h
      refine ⟨h1, by omega, by simp; omega, ?_⟩
      rw [show x.2.1 - f = (x.2.1 - (f + 1)) + 1 by omega, List.getD_cons_succ]
      exact h4
theorem movL_mem : ∀ {M : Mv} {q : Nat} {x : Ln}, x ∈ movL q M → q ≤ x.1 ∧ x.1 < q + M.length ∧ x.2.1 < (M.getD (x.1 - q) []).length ∧ x.2.2 ∈ (M.getD (x.1 - q) []).getD x.2.1 []
  | [], q, x, h => by cases h
  | r :: R, q, x, h => by
    rw [movL] at h
    rcases List.mem_append.1 h with h | h
    · obtain ⟨h1, h2, h3, h4⟩ := rowL_mem h
      rw [h1, Nat.sub_self]
      exact ⟨Nat.le_refl _, by simp, by simpa using h3, by simpa using h4⟩
    · obtain ⟨h1, h2, h3⟩ := movL_mem h
      refine ⟨by omega, by simp; omega, ?_⟩
      rw [show x.1 - q = (x.1 - (q + 1)) + 1 by omega, List.getD_cons_succ]
      exact h3
theorem rowL_sorted (q : Nat) : ∀ (row : List (List (List Nd))) (f : Nat), (rowL q f row).Pairwise leK
  | [], f => List.Pairwise.nil
  | a :: r, f => by
    rw [rowL, List.pairwise_append]
    refine ⟨?_, rowL_sorted q r (f + 1), ?_⟩
    · unfold symL
      rw [List.pairwise_map]
      exact List.pairwise_of_forall fun _ _ => .inr ⟨rfl, Nat.le_refl _⟩
    · intro x hx y hy
      obtain ⟨z, _, rfl⟩ := List.mem_map.1 hx
      obtain ⟨h1, h2, _⟩ := rowL_mem hy
      exact .inr ⟨h1.symm, by show f ≤ y.2.1; omega⟩
theorem movL_sorted : ∀ (M : Mv) (q : Nat), (movL q M).Pairwise leK
  | [], q => List.Pairwise.nil
  | r :: R, q => by
    rw [movL, List.pairwise_append]
    refine ⟨rowL_sorted q r 0, movL_sorted R (q + 1), fun x hx y hy => ?_⟩
    obtain ⟨h1, _⟩ := rowL_mem hx
    obtain ⟨h2, _⟩ := movL_mem hy
    exact .inl (by omega)
theorem filter_none {α : Type} {p : α → Bool} {l : List α} (h : ∀ x ∈ l, p x = false) : l.filter p = [] := by
  rw [List.filter_eq_nil_iff]
  intro x hx; rw [h x hx]; simp
theorem rowL_filter (q f : Nat) : ∀ (row : List (List (List Nd))) (f0 : Nat), (rowL q f0 row).filter (atK q f) = if f < f0 then [] else symL q f (row.getD (f - f0) [])
  | [], f0 => by rw [rowL, List.filter_nil]; split <;> simp [symL]
  | a :: r, f0 => by
    rw [rowL, List.filter_append, rowL_filter q f r (f0 + 1)]
    by_cases h : f = f0
    · subst h
      rw [if_pos (by omega), if_neg (by omega), Nat.sub_self, List.append_nil, List.getD_cons_zero]
      rw [List.filter_eq_self]
      intro x hx
      obtain ⟨z, _, rfl⟩ := List.mem_map.1 hx
      exact atK_iff.2 ⟨rfl, rfl⟩
    · rw [filter_none, List.nil_append]
      · by_cases h2 : f < f0
        · rw [if_pos (by omega), if_pos h2]
        · rw [if_neg (by omega), if_neg h2, show f - f0 = (f - (f0 + 1)) + 1 by omega, List.getD_cons_succ]
      · intro x hx
        obtain ⟨z, _, rfl⟩ := List.mem_map.1 hx
        cases hc : atK q f (q, f0, z) with
        | false => rfl
        | true => exact absurd (atK_iff.1 hc).2.symm h
theorem movL_filter (q f : Nat) : ∀ (M : Mv) (q0 : Nat), (movL q0 M).filter (atK q f) = if q < q0 then [] else symL q f ((M.getD (q - q0) []).getD f [])
  | [], q0 => by rw [movL, List.filter_nil]; split <;> simp [symL]
  | r :: R, q0 => by
    rw [movL, List.filter_append, movL_filter q f R (q0 + 1)]
    by_cases h : q = q0
    · subst h
      rw [rowL_filter, if_neg (by omega), if_pos (by omega), if_neg (by omega), List.append_nil, Nat.sub_self, List.getD_cons_zero, Nat.sub_zero]
    · rw [filter_none (l := rowL q0 0 r), List.nil_append]
      · by_cases h2 : q < q0
        · rw [if_pos (by omega), if_pos h2]
        · rw [if_neg (by omega), if_neg h2, show q - q0 = (q - (q0 + 1)) + 1 by omega, List.getD_cons_succ]
      · intro x hx
        cases hc : atK q f x with
        | false => rfl
        | true => exact absurd ((rowL_mem hx).1.symm.trans (atK_iff.1 hc).1).symm h
def stepM (M : Mv) (x : Ln) : Mv := if x.1 < M.length then addAlt M x.1 x.2.1 x.2.2 else M
theorem pstep_inv (states m : Nat) : ∀ (ls : List Ln) (last : Int) (M M' : Mv), pstep states m ls last M = some M' → M' = ls.foldl stepM M ∧ (∀ x ∈ ls, x.1 < states ∧ x.2.1 < m ∧ last ≤ ((x.1 * m + x.2.1 : Nat) : Int)) ∧ ls.Pairwise leK := by
  intro ls
  induction ls with
  | nil => intro last M M' h; rw [pstep] at h; obtain rfl := Option.some.inj h; exact ⟨rfl, (fun x hx => by cases hx), List.Pairwise.nil⟩
  | cons x r ih =>
    intro last M M' h
    rw [pstep] at h
    split at h
    case isFalse => cases h
    case isTrue hc =>
      obtain ⟨h1, h2, h3⟩ := ih _ _ _ h
      refine ⟨h1, fun y hy => ?_, List.pairwise_cons.2 ⟨fun y hy => ?_, h3⟩⟩
      · rcases List.mem_cons.1 hy with rfl | hy
        · exact hc
        · have := h2 y hy; exact ⟨this.1, this.2.1, Int.le_trans hc.2.2 this.2.2⟩
      · have h4 := h2 y hy
        have h5 : x.1 * m + x.2.1 ≤ y.1 * m + y.2.1 := by have := h4.2.2; omega
        have h6 := hc.2.1
        have h7 := h4.2.1
        rcases Nat.lt_trichotomy x.1 y.1 with h | h | h
        · exact .inl h
        · rw [h] at h5; exact .inr ⟨h, by omega⟩
        · exfalso
          have h8 : (y.1 + 1) * m ≤ x.1 * m := Nat.mul_le_mul_right m h
          rw [Nat.succ_mul] at h8
          omega
theorem pstep_of (states m : Nat) : ∀ (ls : List Ln) (last : Int) (M : Mv), (∀ x ∈ ls, x.1 < states ∧ x.2.1 < m ∧ last ≤ ((x.1 * m + x.2.1 : Nat) : Int)) → ls.Pairwise leK → pstep states m ls last M = some (ls.foldl stepM M) := by
  intro ls
  induction ls with
  | nil => intro last M _ _; rfl
  | cons x r ih =>
    intro last M h hp
    have hc := h x (List.mem_cons_self ..)
    rw [pstep, if_pos hc]
    refine ih _ _ (fun y hy => ?_) (List.pairwise_cons.1 hp).2
    have hy1 := h y (List.mem_cons_of_mem _ hy)
    refine ⟨hy1.1, hy1.2.1, ?_⟩
    have h5 := (List.pairwise_cons.1 hp).1 y hy
    rcases h5 with h5 | ⟨h5, h6⟩
    · have h8 : (x.1 + 1) * m ≤ y.1 * m := Nat.mul_le_mul_right m h5
      rw [Nat.succ_mul] at h8
      have := hc.2.1
      omega
    · rw [h5]; omega
theorem stepM_len (M : Mv) (x : Ln) : (stepM M x).length = M.length := by
  unfold stepM; split
  · exact addAlt_len ..
  · rfl
theorem fold_len : ∀ (ls : List Ln) (M : Mv), (ls.foldl stepM M).length = M.length
  | [], M => rfl
  | x :: r, M => by rw [List.foldl_cons, fold_len r, stepM_len]
theorem addAlt_row_len {M : Mv} {q f : Nat} {z : List Nd} (q' : Nat) : ((addAlt M q f z).getD q' []).length = (M.getD q' []).length := by
  by_cases hq : q < M.length
  · rw [addAlt_row hq]
    split
    · rename_i h; subst h; rw [List.length_set]
    · rfl
  · unfold addAlt
    rw [List.set_eq_of_length_le (by omega)]
theorem stepM_row_len (M : Mv) (x : Ln) (q : Nat) : ((stepM M x).getD q []).length = (M.getD q []).length := by
  unfold stepM; split
  · exact addAlt_row_len q
  · rfl
theorem fold_row_len : ∀ (ls : List Ln) (M : Mv) (q : Nat), ((ls.foldl stepM M).getD q []).length = (M.getD q []).length
  | [], M, q => rfl
  | x :: r, M, q => by rw [List.foldl_cons, fold_row_len r, stepM_row_len]
theorem stepM_at {M : Mv} {x : Ln} {q f : Nat} (hq : q < M.length) (hf : f < (M.getD q []).length) : ((stepM M x).getD q []).getD f [] = (M.getD q []).getD f [] ++ (if atK q f x = true then [x.2.2] else []) := by
  unfold stepM
  by_cases hx : x.1 < M.length
  · rw [if_pos hx, addAlt_row hx]
    by_cases h1 : q = x.1
    · subst h1
      rw [if_pos rfl]
      by_cases h2 : f = x.2.1
      · subst h2
        rw [setD hf, if_pos rfl, if_pos (atK_iff.2 ⟨rfl, rfl⟩)]
      · have : ((M.getD x.1 []).set x.2.1 ((M.getD x.1 []).getD x.2.1 [] ++ [x.2.2])).getD f [] = (M.getD x.1 []).getD f [] := by
          rw [List.getD_eq_getElem?_getD, List.getElem?_set_ne (fun e => h2 e.symm), ← List.getD_eq_getElem?_getD]
        rw [this, if_neg (fun h => h2 (atK_iff.1 h).2.symm), List.append_nil]
    · rw [if_neg h1, if_neg (fun h => h1 (atK_iff.1 h).1.symm), List.append_nil]
  · rw [if_neg hx, if_neg (fun h => by have := (atK_iff.1 h).1; omega), List.append_nil]
theorem fold_at {q f : Nat} : ∀ (ls : List Ln) (M : Mv), q < M.length → f < (M.getD q []).length → ((ls.foldl stepM M).getD q []).getD f [] = (M.getD q []).getD f [] ++ (ls.filter (atK q f)).map (·.2.2)
  | [], M, hq, hf => by simp
  | x :: r, M, hq, hf => by
    rw [List.foldl_cons, fold_at r (stepM M x) (by rw [stepM_len]; exact hq) (by rw [stepM_row_len]; exact hf), stepM_at hq hf, List.filter_cons]
    split
    · simp
    · simp
theorem getD_memV {α : Type} {l : List α} {i : Nat} (d : α) (h : i < l.length) : l.getD i d ∈ l := by
  rw [List.getD_eq_getElem?_getD, List.getElem?_eq_getElem h]; exact List.getElem_mem h
def zeroM (n m : Nat) : Mv := List.replicate n (List.replicate m [])
theorem zeroM_row {n m q : Nat} (h : q < n) : (zeroM n m).getD q [] = List.replicate m [] := by
  unfold zeroM
  rw [List.getD_eq_getElem?_getD, List.getElem?_replicate, if_pos h]; rfl
theorem zeroM_at (n m q f : Nat) : ((zeroM n m).getD q []).getD f [] = [] := by
  by_cases h : q < n
  · rw [zeroM_row h, List.getD_eq_getElem?_getD, List.getElem?_replicate]
    split <;> rfl
  · have : (zeroM n m).getD q [] = [] := by unfold zeroM; rw [List.getD_eq_getElem?_getD, List.getElem?_replicate, if_neg h]; rfl
    rw [this]; rfl
theorem mv_ext {A B : Mv} {n m : Nat} (ha : A.length = n) (hb : B.length = n) (ra : ∀ q, q < n → (A.getD q []).length = m) (rb : ∀ q, q < n → (B.getD q []).length = m) (h : ∀ q f, q < n → f < m → (A.getD q []).getD f [] = (B.getD q []).getD f []) : A = B := by
  apply List.ext_getElem (by omega)
  intro q h1 h2
  have e1 : A.getD q [] = A[q] := by rw [List.getD_eq_getElem?_getD, List.getElem?_eq_getElem h1]; rfl
  have e2 : B.getD q [] = B[q] := by rw [List.getD_eq_getElem?_getD, List.getElem?_eq_getElem h2]; rfl
  have r1 := ra q (by omega)
  have r2 := rb q (by omega)
  have r3 := h q
  rw [← e1, ← e2]
  generalize A.getD q [] = a at *
  generalize B.getD q [] = b at *
  apply List.ext_getElem (by omega)
  intro f k1 k2
  have := r3 f (by omega) (by omega)
  rw [List.getD_eq_getElem?_getD, List.getElem?_eq_getElem k1, List.getD_eq_getElem?_getD, List.getElem?_eq_getElem k2] at this
  exact this
theorem read_mov {M : Mv} {m : Nat} (hrow : ∀ row ∈ M, row.length = m) : (movL 0 M).foldl stepM (zeroM M.length m) = M := by
  have hr : ∀ q, q < M.length → (M.getD q []).length = m := fun q hq => hrow _ (getD_memV [] hq)
  refine mv_ext (n := M.length) (m := m) ?_ rfl ?_ hr ?_
  · rw [fold_len]; unfold zeroM; simp
  · intro q hq; rw [fold_row_len, zeroM_row hq]; simp
  · intro q f hq hf
    rw [fold_at _ _ (by unfold zeroM; simpa using hq) (by rw [zeroM_row hq]; simpa using hf), zeroM_at, List.nil_append, movL_filter, if_neg (by omega), Nat.sub_zero]
    unfold symL
    rw [List.map_map]
    have e : ((fun x : Ln => x.2.2) ∘ fun z => (q, f, z)) = id := rfl
    rw [e, List.map_id]
theorem mov_read {ls : List Ln} {n m : Nat} (hr : ∀ x ∈ ls, x.1 < n ∧ x.2.1 < m) (hs : ls.Pairwise leK) : movL 0 (ls.foldl stepM (zeroM n m)) = ls := by
  have hz : (zeroM n m).length = n := by unfold zeroM; simp
  refine sorted_unique (movL_sorted _ _) hs fun q f => ?_
  rw [movL_filter, if_neg (by omega), Nat.sub_zero]
  by_cases hq : q < n
  · by_cases hf : f < m
    · rw [fold_at _ _ (by rw [hz]; exact hq) (by rw [zeroM_row hq]; simpa using hf), zeroM_at, List.nil_append]
      unfold symL
      rw [List.map_map]
      have : ∀ x ∈ ls.filter (atK q f), ((fun z => (q, f, z)) ∘ fun (y : Ln) => y.2.2) x = x := by
        intro x hx
        obtain ⟨h1, h2⟩ := atK_iff.1 (List.mem_filter.1 hx).2
        subst h1 h2
        rfl
      rw [List.map_congr_left this]; simp
    · rw [filter_none (fun x hx => by
        cases hc : atK q f x with
        | false => rfl
        | true => have := (atK_iff.1 hc).2; have := (hr x hx).2; omega)]
      have hlen : ((ls.foldl stepM (zeroM n m)).getD q []).length = m := by rw [fold_row_len, zeroM_row hq]; simp
      rw [List.getD_eq_getElem?_getD, List.getElem?_eq_none (by omega)]; rfl
  · rw [filter_none (fun x hx => by
      cases hc : atK q f x with
      | false => rfl
      | true => have := (atK_iff.1 hc).1; have := (hr x hx).1; omega)]
    have hlen := fold_len ls (zeroM n m)
    have : (ls.foldl stepM (zeroM n m)).getD q [] = [] := by rw [List.getD_eq_getElem?_getD, List.getElem?_eq_none (by omega)]; rfl
    rw [this]; rfl
theorem nd_ok {x : Nd} (h : 0 ≤ x.f0 ∧ x.f0 < 4 ∧ 0 ≤ x.f1 ∧ x.f1 < 6) : NdOk x := by
  obtain ⟨a, b⟩ := x
  exact ⟨a.toNat, b.toNat, by have := h; simp only [] at this; omega, by have := h; simp only [] at this; omega, by
    have := h
    simp only [] at this
    rw [Int.toNat_of_nonneg (by omega), Int.toNat_of_nonneg (by omega)]⟩
theorem gram_ok {rk : List Int} {st : Int} {M : Mv} (ok : AuOk rk st M) : GramOk rk M.length st.toNat (movL 0 M) := by
  refine ⟨fun r hr => ?_, by have := ok.nM; omega, by have := ok.st1; have := ok.nM; omega, fun x hx => ?_⟩
  · have := ok.rks r hr
    exact ⟨r.toNat, by omega, by omega⟩
  · obtain ⟨h1, h2, h3, h4⟩ := movL_mem hx
    rw [Nat.sub_zero] at h3 h4
    have hr := getD_memV (l := M) [] (show x.1 < M.length by omega)
    have hl := ok.row _ hr
    have ha := getD_memV (l := M.getD x.1 []) [] h3
    refine ⟨by have := ok.nM; omega, by have := ok.nrk; omega, fun y hy => nd_ok (ok.nds _ hr _ ha _ h4 y hy)⟩
theorem round_put {rk : List Int} {st : Int} {M : Mv} (h : auB rk st M = true) (hlen : (putL rk st M).length ≤ 65536) : getR ⟨(putL rk st M).toArray⟩ = (0, rk, st, M) := by
  have ok := auOk h
  have hv := getV_gram (t := ⟨(putL rk st M).toArray⟩) (gram_ok ok) (putL_gram rk st M)
  have hp : gramV rk M.length st.toNat (movL 0 M) = some (rk, st, M) := by
    unfold gramV
    rw [pstep_of _ _ _ _ _ (fun x hx => ?_) (movL_sorted M 0)]
    · have e : min M.length 7 = M.length := by have := ok.nM; omega
      rw [e]
      have := read_mov (M := M) (m := rk.length) ok.row
      unfold zeroM at this
      rw [this, Option.map_some, Int.toNat_of_nonneg ok.st0]
    · obtain ⟨h1, h2, h3, h4⟩ := movL_mem hx
      rw [Nat.sub_zero] at h3
      have hr := getD_memV (l := M) [] (show x.1 < M.length by omega)
      exact ⟨by omega, by rw [← ok.row _ hr]; exact h3, by omega⟩
  unfold getR
  rw [if_neg (by show ¬ 65536 < (putL rk st M).toArray.size; rw [List.size_toArray]; omega), hv, hp]
  simp only []
  rw [if_pos (chk_true h)]
theorem getR_zero {t : ByteArray} {rk : List Int} {st : Int} {M : Mv} (h : getR t = (0, rk, st, M)) : t.size ≤ 65536 ∧ getV t = some (rk, st, M) ∧ auB rk st M = true := by
  unfold getR at h
  split at h
  · simp at h
  · rename_i hs
    refine ⟨by omega, ?_⟩
    cases hv : getV t with
    | none => rw [hv] at h; simp at h
    | some v =>
      obtain ⟨a, b, c⟩ := v
      rw [hv] at h
      simp only [] at h
      split at h
      · rename_i hc
        simp only [Prod.mk.injEq, true_and] at h
        obtain ⟨rfl, rfl, rfl⟩ := h
        refine ⟨rfl, ?_⟩
        cases hb : auB a b c with
        | true => rfl
        | false => rw [chk_false hb] at hc; cases hc
      · simp at h
theorem get_round {t : ByteArray} {rk : List Int} {st : Int} {M : Mv} (h : getR t = (0, rk, st, M)) : putL rk st M = t.data.toList ∧ putR rk st M = (t.data.toList, 0) ∧ auB rk st M = true := by
  obtain ⟨hs, hv, hb⟩ := getR_zero h
  obtain ⟨rk', states, st', ls, hok, ht⟩ := getV_inv hv
  have hg := getV_gram hok ht
  rw [hv] at hg
  unfold gramV at hg
  cases hp : pstep states rk'.length ls (-1) (List.replicate (min states 7) (List.replicate rk'.length [])) with
  | none => rw [hp] at hg; cases hg
  | some M' =>
    rw [hp, Option.map_some] at hg
    simp only [Option.some.injEq, Prod.mk.injEq] at hg
    obtain ⟨rfl, rfl, rfl⟩ := hg
    obtain ⟨h1, h2, h3⟩ := pstep_inv _ _ _ _ _ _ hp
    have ok := auOk hb
    have hl : M.length = min states 7 := by rw [h1, fold_len]; simp
    have hst : states = M.length := by have := ok.nM; omega
    have hm : movL 0 M = ls := by
      rw [h1]
      rw [show min states 7 = M.length by omega]
      exact mov_read (fun x hx => ⟨by have := (h2 x hx).1; omega, (h2 x hx).2.1⟩) h3
    have e : putL rk (st' : Int) M = t.data.toList := by
      rw [putL_gram, hm, ht, ← hst]; rfl
    refine ⟨e, ?_, hb⟩
    unfold putR
    rw [hb, if_pos rfl, e, if_neg (by rw [← Lib.size_eq]; omega)]
end Go.Proofs.YtbmcigakiibncaaGreatDoor.H
namespace Go.Proofs.YtbmcigakiibncaaGreatDoor.H
open Go.RowKit Go.Proofs.YtbmcigakiibncaaGreatDoorW.PrintWords Go.Proofs.YtbmcigakiibncaaGreatDoorW.PrintLast Go.Proofs.YtbmcigakiibncaaGreatDoorW.PrintMore
set_option linter.unusedVariables false
set_option linter.unusedSimpArgs false
theorem at_int {w : World} {A : Option Addr} {n : Nat} {xs : List Int} (h : Kd.C (Kd.int .i64) w A n xs) (i : Nat) (hi : i < n) :
    ∃ ad, A = some ad ∧ w.cell? (ad.add i) = some (.int .i64 (xs.getD i 0)) := by
  obtain ⟨ad, c, e, _, hK, hc0⟩ := Kd.C_get h 0 (i : Int) (by omega) (by omega)
  have hc : ∀ j u, c[j]? = some u → w.cell? (ad.add (i * 1 + j)) = some u := fun j u hj => by have := hc0 j u hj; rwa [Int.toNat_natCast] at this
  obtain rfl := hK
  exact ⟨ad, e, by have hq := hc 0 _ rfl; rwa [Nat.mul_one, Nat.add_zero] at hq⟩
theorem pb_start (w W : World) (x y z : Value) (hb : Below w.heap.size w W) (box : W.heap[w.heap.size]? = some (.cells #[x, y, z] 25 (0, 0))) :
    PB w W.heap.size x y z [] (W.alloc (.cells #[.pointer none, .slice none 0 0] 76)) :=
  ⟨hb.alloc hb.size _, blk_alloc box _, blk_lt box, .inl ⟨Nat.le_refl _, .slice none 0 0, blk_new W _, ⟨rfl, .inl ⟨rfl, rfl⟩⟩, fun h => by cases h⟩, by simp⟩
def PutE (rk : List Int) (st : Int) (M : Mv) (w : World) (e : Ending) (w' : World) : Prop := e = .returned (.tuple #[.string ⟨(putR rk st M).1.toArray⟩, .int .i64 (putR rk st M).2]) ∧ Below w.heap.size w w'
theorem getD_memI {l : List Int} {i : Nat} (h : i < l.length) : l.getD i 0 ∈ l := by
  rw [List.getD_eq_getElem?_getD, List.getElem?_eq_getElem h]; exact List.getElem_mem h
theorem getD_memX {α : Type} {l : List α} {i : Nat} (d : α) (h : i < l.length) : l.getD i d ∈ l := by
  rw [List.getD_eq_getElem?_getD, List.getElem?_eq_getElem h]; exact List.getElem_mem h
theorem itoaN_calls (k : Nat) (h : k < 100) (w : World) : Calls Tryz.prog 53 #[.int .i64 (k : Int)] w fun e w' => e = .returned (.string ⟨(dg k).toArray⟩) ∧ w' = w := Tryz.strconv_Itoa_small k h w
set_option maxHeartbeats 16000000 in
set_option maxRecDepth 100000 in
theorem put_calls (rk : List Int) (M : Mv) (st : Int) (A1 : Option Addr) (c1 : Nat) (A2 : Option Addr) (c2 : Nat) (w : World)
    (hr : Kd.C (Kd.int .i64) w A1 rk.length rk) (hc1 : rk.length ≤ c1) (hM : Kd.C kA3 w A2 M.length M) :
    Calls Tryz.prog 24 #[.agg #[.slice A1 rk.length c1, .int .i64 st, .slice A2 M.length c2]] w (PutE rk st M w) := by
  have HR := Aside0.mk hr
  have HM := Aside0.mk hM
  have hb0 := below_alloc (Below.refl w.heap.size w) (.cells #[.slice A1 rk.length c1, .int .i64 st, .slice A2 M.length c2] 25)
  have HCK := Aside0.mk (acheckG_calls rk M st A1 c1 A2 c2 _ (Kd.C_below hr hb0) hc1 (Kd.C_below hM hb0))
  have HB0 := Aside0.mk hb0
  have HX0 := Aside0.mk (blk_new w (.cells #[.slice A1 rk.length c1, .int .i64 st, .slice A2 M.length c2] 25))
  clear hr hc1 hM hb0
  go_enter Tryz.func24, Tryz.ntmps24
  go_upto_region 1 with (fail)
  generalize w.alloc (.cells #[.slice A1 rk.length c1, .int .i64 st, .slice A2 M.length c2] 25) = W1 at *
  have k0 : W1.cell? ⟨w.heap.size, 0, none⟩ = some (.slice A1 rk.length c1) := (blk_cell HX0.out 0).trans rfl
  have k1 : W1.cell? ⟨w.heap.size, 1, none⟩ = some (.int .i64 st) := (blk_cell HX0.out 1).trans rfl
  have k2 : W1.cell? ⟨w.heap.size, 2, none⟩ = some (.slice A2 M.length c2) := (blk_cell HX0.out 2).trans rfl
  cases hau : auB rk st M with
  | false =>
    rw [chk_false hau] at HCK
    have HP := Aside0.mk (show putR rk st M = ([], 10) by unfold putR; rw [hau]; rfl)
    clear hau
    go_wp2_with fail
    refine (HCK.out).mono ?_
    rintro E W2 ⟨rfl, hb⟩
    have HB1 := Aside0.mk (below_then HB0.out (HB0.out).size hb)
    clear hb
    go_wp2
    go_ret2
    exact ⟨by rw [HP.out]; rfl, HB1.out⟩
  | true =>
  rw [chk_true hau] at HCK
  have HOK := Aside0.mk (auOk hau)
  have HPR := Aside0.mk (show putR rk st M = if 65536 < (putL rk st M).length then ([], 3) else (putL rk st M, 0) by unfold putR; rw [hau]; rfl)
  have HLN := Aside0.mk (putL_len HOK.out)
  clear hau
  go_wp2_with fail
  refine (HCK.out).mono ?_
  rintro E W2 ⟨rfl, hb⟩
  have HS := Aside0.mk (pb_start w W2 _ _ _ (below_then HB0.out (HB0.out).size hb) (blk_below HX0.out hb))
  clear hb HCK HB0 HX0 k0 k1 k2
  go_upto_region 5 with (fail)
  generalize W2.heap.size = b at *
  generalize W2.alloc _ = W3 at *
  have HW := Aside0.mk (ws_calls b [] ⟨#[114, 97, 110, 107, 115]⟩ tRanks W3 (HS.out).bb rfl (by unfold tRanks; simp) (HS.out).hbw)
  go_wp2_with fail
  refine (HW.out).mono ?_
  rintro E W4 ⟨rfl, hB, hb⟩
  have HS4 := Aside0.mk ((HS.out).write hb hB)
  clear hB hb HW HS
  have HRL := Aside0.mk (show rk.length ≤ 24 from (HOK.out).nrk)
  have k0 : W4.cell? ⟨w.heap.size, 0, none⟩ = some (.slice A1 rk.length c1) := (blk_cell (HS4.out).box 0).trans rfl
  go_wp2
  clear k0
  go_loopg [25] rk.length (fun gg v25 wi => ∃ (i : Nat) (acc : List UInt8), i ≤ rk.length ∧ rk.length - i ≤ gg ∧ v25 = .int .i64 i ∧ Aside0 (PB w b (.slice A1 rk.length c1) (.int .i64 st) (.slice A2 M.length c2) acc wi) ∧ Aside0 (acc ++ (ranksT (rk.drop i) ++ (secT M.length st.toNat ++ movT 0 M)) = putL rk st M))
  case atStart => exact ⟨0, _, Nat.zero_le _, Nat.le_refl _, rfl, HS4, ⟨rfl⟩⟩
  case round =>
    clear HS4
    obtain ⟨i, acc, hi, hgg, rfl, HS5, HA⟩ := hrel
    by_cases hlt : i < rk.length
    · have hltz : (i : Int) < (rk.length : Int) := by omega
      have HLT := Aside0.mk hlt
      obtain ⟨ad, e, hk⟩ := at_int (Kd.C_below HR.out (HS5.out).hb) i hlt
      subst e
      have HRR := Aside0.mk ((HOK.out).rks _ (getD_memI hlt))
      have HFD := Aside0.mk (show ranksT (rk.drop i) = (32 :: dg (rk.getD i 0).toNat) ++ ranksT (rk.drop (i + 1)) from flatMap_drop hlt)
      have HKZ := Aside0.mk (show wrap64 ((i : Int) + 1) = ((i + 1 : Nat) : Int) by rw [wr_id (by omega) (by have := HRL.out; omega)]; rfl)
      generalize rk.getD i 0 = r at *
      have hd : (dg r.toNat).length ≤ 2 := dg_len (by have := (HRR.out).1; have := (HRR.out).2; omega)
      have HI := Aside0.mk (fun W => itoa_calls r (HRR.out).1 (by have := (HRR.out).2; omega) W)
      clear hlt hi
      go_wp2_with fail
      refine ((HI.out) _).mono ?_
      rintro E W5 ⟨rfl, rfl⟩
      have HA6 := Aside0.mk (show (acc ++ (32 :: dg r.toNat)) ++ (ranksT (rk.drop (i + 1)) ++ (secT M.length st.toNat ++ movT 0 M)) = putL rk st M by rw [← HA.out, HFD.out]; simp)
      have HLA := Aside0.mk (show acc.length + (32 :: dg r.toNat).length ≤ 1000000 by
        have h1 := HLN.out
        rw [← HA6.out, List.length_append, List.length_append] at h1
        omega)
      have HWS := Aside0.mk (fun (s : ByteArray) (hs : s.data.toList = 32 :: dg r.toNat) => ws_calls b acc s _ _ (HS5.out).bb hs (by have := HLA.out; omega) (HS5.out).hbw)
      go_wp2_with fail
      refine ((HWS.out) _ ?_).mono ?_
      · first | rfl | simp
      rintro E W6 ⟨rfl, hB, hb⟩
      have HS7 := Aside0.mk ((HS5.out).write hb hB)
      clear hB hb
      go_wp2
      go_roundg (rk.length - (i + 1))
      case measure => have := HLT.out; omega
      case rel => exact ⟨i + 1, _, HLT.out, Nat.le_refl _, by rw [HKZ.out], HS7, HA6⟩
    · obtain rfl : i = rk.length := by omega
      have HA2 := Aside0.mk (show acc ++ (secT M.length st.toNat ++ movT 0 M) = putL rk st M by rw [← HA.out, List.drop_length]; rfl)
      clear HA hi hgg hlt
      go_upto_region 11 with (fail)
      have k1 : wr.cell? ⟨w.heap.size, 1, none⟩ = some (.int .i64 st) := (blk_cell (HS5.out).box 1).trans rfl
      have k2 : wr.cell? ⟨w.heap.size, 2, none⟩ = some (.slice A2 M.length c2) := (blk_cell (HS5.out).box 2).trans rfl
      have HI1 := Aside0.mk (fun W => itoa_calls (M.length : Int) (by omega) (by have := (HOK.out).nM; omega) W)
      have HI2 := Aside0.mk (fun W => itoa_calls st (HOK.out).st0 (by have := (HOK.out).nM; have := (HOK.out).st1; omega) W)
      have hd1 : (dg M.length).length ≤ 2 := dg_len (by have := (HOK.out).nM; omega)
      have hd2 : (dg st.toNat).length ≤ 2 := dg_len (by have := (HOK.out).nM; have := (HOK.out).st1; omega)
      refine wp_region_still_tail 11 (by kernel_rfl) (by kernel_rfl) ?_
      simp only [List.take_succ_cons, List.take_zero, List.drop_succ_cons, List.drop_zero]
      repeat (refine wpStill_step (fun K hK => ?_); go_simp; (first | refine hK _ ?_ | (rw [if_neg (by omega)]; go_simp; refine hK _ ?_)); clear hK K)
      still_call (HI1.out _)
      repeat (refine wpStill_step (fun K hK => ?_); go_simp; (first | refine hK _ ?_ | (rw [if_neg (by omega)]; go_simp; refine hK _ ?_)); clear hK K)
      still_call (HI2.out _)
      repeat (refine wpStill_step (fun K hK => ?_); go_simp; (first | refine hK _ ?_ | (rw [if_neg (by omega)]; go_simp; refine hK _ ?_)); clear hK K)
      refine wpStill_nil ?_
      change wpList _ _ _ _ _ wr.drew
      have HSd := Aside0.mk ((HS5.out).below (below_drew (Below.refl _ _)))
      clear k1 k2 HS5 HI1 HI2
      generalize wr.drew = W5 at *
      have HA6 := Aside0.mk (show (acc ++ secT M.length st.toNat) ++ (movT 0 M) = putL rk st M by rw [← HA2.out]; simp)
      have HLA6 := Aside0.mk (show (acc).length + (secT M.length st.toNat).length ≤ 1000000 by
        have h1 := HLN.out
        rw [← HA6.out, List.length_append, List.length_append] at h1
        omega)
      have HWS6 := Aside0.mk (fun (s : ByteArray) (hs : s.data.toList = secT M.length st.toNat) => ws_calls b (acc) s _ _ (HSd.out).bb hs (by have := HLA6.out; omega) (HSd.out).hbw)
      go_wp2_with fail
      refine ((HWS6.out) _ ?_).mono ?_
      · first | rfl | (simp; done) | (simp; rfl)
      rintro E W6 ⟨rfl, hB, hb⟩
      have HS6 := Aside0.mk ((HSd.out).write hb hB)
      clear hB hb HWS6 HLA6
      have k2 : W6.cell? ⟨w.heap.size, 2, none⟩ = some (.slice A2 M.length c2) := (blk_cell (HS6.out).box 2).trans rfl
      have HNM := Aside0.mk (HOK.out).nM
      clear HA2 HSd hd1 hd2
      generalize acc ++ secT M.length st.toNat = acc0 at *
      go_wp2
      clear k2
      go_loopg [49] M.length (fun gg v49 wi => ∃ (q : Nat) (acc : List UInt8), q ≤ M.length ∧ M.length - q ≤ gg ∧ v49 = .int .i64 q ∧ Aside0 (PB w b (.slice A1 rk.length c1) (.int .i64 st) (.slice A2 M.length c2) acc wi) ∧ Aside0 (acc ++ movT q (M.drop q) = putL rk st M))
      case atStart => exact ⟨0, _, Nat.zero_le _, Nat.le_refl _, rfl, HS6, HA6⟩
      case round =>
        clear HS6 HA6
        obtain ⟨q, acc, hq, hgg, rfl, HS, HA⟩ := hrel
        by_cases hlt : q < M.length
        · have hltz : (q : Int) < (M.length : Int) := by omega
          have HLT := Aside0.mk hlt
          obtain ⟨ad, A0, c0, e, hk, hc0, hrow⟩ := at_sl HM.out q hlt
          subst e
          have hk2 := pw_cell_below (HS.out).hb hk
          have HROW := Aside0.mk hrow
          have HRM := Aside0.mk (getD_memX [] hlt)
          have HDQ := Aside0.mk (movT_drop hlt)
          have HKQ := Aside0.mk (show wrap64 ((q : Int) + 1) = ((q + 1 : Nat) : Int) by rw [wr_id (by omega) (by have := HNM.out; omega)]; rfl)
          have HQ100 := Aside0.mk (show q < 100 by have := HNM.out; omega)
          clear hk hc0 hrow hlt hq
          generalize M.getD q [] = row at *
          have HRL2 := Aside0.mk ((HOK.out).row row HRM.out)
          go_wp2
          clear hk2 hltz
          go_loopg [56] row.length (fun gg v56 wi => ∃ (f : Nat) (acc : List UInt8), f ≤ row.length ∧ row.length - f ≤ gg ∧ v56 = .int .i64 f ∧ Aside0 (PB w b (.slice A1 rk.length c1) (.int .i64 st) (.slice (some ad) M.length c2) acc wi) ∧ Aside0 (acc ++ (rowT q f (row.drop f) ++ movT (q + 1) (M.drop (q + 1))) = putL rk st M))
          case atStart => exact ⟨0, acc, Nat.zero_le _, Nat.le_refl _, rfl, HS, ⟨by rw [← HA.out, HDQ.out]; rfl⟩⟩
          case round =>
            clear HS HA HDQ
            obtain ⟨f, acc, hf, hgg, rfl, HS, HA⟩ := hrel
            by_cases hlt : f < row.length
            · have hltz : (f : Int) < (row.length : Int) := by omega
              have HLF := Aside0.mk hlt
              obtain ⟨ad3, A3, c3, e, hk, hc3, halt⟩ := at_sl HROW.out f hlt
              subst e
              have hk2 := pw_cell_below (HS.out).hb hk
              have HALT := Aside0.mk halt
              have HAM := Aside0.mk (getD_memX [] hlt)
              have HDF := Aside0.mk (rowT_drop (q := q) hlt)
              have HF24 := Aside0.mk (show f < 24 by have := HRL.out; have := HRL2.out; omega)
              have HKF := Aside0.mk (show wrap64 ((f : Int) + 1) = ((f + 1 : Nat) : Int) by rw [wr_id (by omega) (by have := HF24.out; omega)]; rfl)
              clear hk hc3 halt hlt hf
              generalize row.getD f [] = alts at *
              have HAL := Aside0.mk ((HOK.out).alts row HRM.out alts HAM.out)
              go_wp2
              clear hk2 hltz
              go_loopg [63] alts.length (fun gg v63 wi => ∃ (i : Nat) (acc : List UInt8), i ≤ alts.length ∧ alts.length - i ≤ gg ∧ v63 = .int .i64 i ∧ Aside0 (PB w b (.slice A1 rk.length c1) (.int .i64 st) (.slice (some ad) M.length c2) acc wi) ∧ Aside0 (acc ++ ((alts.drop i).flatMap (altT q f) ++ (rowT q (f + 1) (row.drop (f + 1)) ++ movT (q + 1) (M.drop (q + 1)))) = putL rk st M))
              case atStart => exact ⟨0, acc, Nat.zero_le _, Nat.le_refl _, rfl, HS, ⟨by rw [← HA.out, HDF.out]; simp [symT]⟩⟩
              case round =>
                clear HS HA HDF
                obtain ⟨i, acc, hi, hgg, rfl, HS, HA⟩ := hrel
                by_cases hlt : i < alts.length
                · have hltz : (i : Int) < (alts.length : Int) := by omega
                  have HLI := Aside0.mk hlt
                  obtain ⟨ad4, A4, c4, e, hk, hc4, hl⟩ := at_sl HALT.out i hlt
                  subst e
                  have hk2 := pw_cell_below (HS.out).hb hk
                  have HL := Aside0.mk hl
                  have HLM := Aside0.mk (getD_memX [] hlt)
                  have HDI := Aside0.mk (flatMap_drop (g := altT q f) (d := []) hlt)
                  have HKI := Aside0.mk (show wrap64 ((i : Int) + 1) = ((i + 1 : Nat) : Int) by rw [wr_id (by omega) (by have := HAL.out; omega)]; rfl)
                  clear hk hc4 hl hlt hi
                  generalize alts.getD i [] = l at *
                  have HLL := Aside0.mk ((HOK.out).lens row HRM.out alts HAM.out l HLM.out)
                  have hdq : (dg q).length ≤ 2 := dg_len HQ100.out
                  have hdf : (dg f).length ≤ 2 := dg_len (by have := HF24.out; omega)
                  have HI1 := Aside0.mk (fun W => itoaN_calls q HQ100.out W)
                  have HI2 := Aside0.mk (fun W => itoaN_calls f (by have := HF24.out; omega) W)
                  have HA7 := Aside0.mk (show (acc ++ headT q f) ++ (l.flatMap needT ++ ([10] ++ ((alts.drop (i + 1)).flatMap (altT q f) ++ (rowT q (f + 1) (row.drop (f + 1)) ++ movT (q + 1) (M.drop (q + 1)))))) = putL rk st M by rw [← HA.out, HDI.out]; unfold altT; simp)
                  have HLA7 := Aside0.mk (show (acc).length + (headT q f).length ≤ 1000000 by
                    have h1 := HLN.out
                    rw [← HA7.out, List.length_append, List.length_append] at h1
                    omega)
                  have HWS7 := Aside0.mk (fun (s : ByteArray) (hs : s.data.toList = headT q f) => ws_calls b (acc) s _ _ (HS.out).bb hs (by have := HLA7.out; omega) (HS.out).hbw)
                  go_wp2_with fail
                  refine ((HI1.out) _).mono ?_
                  rintro E W0 ⟨rfl, rfl⟩
                  go_wp2_with fail
                  refine ((HI2.out) _).mono ?_
                  rintro E W0 ⟨rfl, rfl⟩
                  go_wp2_with fail
                  refine ((HWS7.out) _ ?_).mono ?_
                  · first | rfl | (simp; done) | (simp; rfl)
                  rintro E W7 ⟨rfl, hB, hb⟩
                  have HS7 := Aside0.mk ((HS.out).write hb hB)
                  clear hB hb HWS7 HLA7
                  clear hdq hdf HI1 HI2 hk2 hltz HS HA HDI
                  generalize acc ++ headT q f = acc1 at *
                  go_wp2
                  go_loopg [77] l.length (fun gg v77 wi => ∃ (j : Nat) (acc : List UInt8), j ≤ l.length ∧ l.length - j ≤ gg ∧ v77 = .int .i64 j ∧ Aside0 (PB w b (.slice A1 rk.length c1) (.int .i64 st) (.slice (some ad) M.length c2) acc wi) ∧ Aside0 (acc ++ ((l.drop j).flatMap needT ++ ([10] ++ ((alts.drop (i + 1)).flatMap (altT q f) ++ (rowT q (f + 1) (row.drop (f + 1)) ++ movT (q + 1) (M.drop (q + 1)))))) = putL rk st M))
                  case atStart => exact ⟨0, _, Nat.zero_le _, Nat.le_refl _, rfl, HS7, HA7⟩
                  case round =>
                    clear HS7 HA7
                    obtain ⟨j, acc, hj, hgg, rfl, HS, HA⟩ := hrel
                    by_cases hlt : j < l.length
                    · have hltz : (j : Int) < (l.length : Int) := by omega
                      have HLJ := Aside0.mk hlt
                      obtain ⟨ad5, e, hk, hkb⟩ := at_need HL.out j hlt
                      subst e
                      have hk2 := pw_cell_below (HS.out).hb hk
                      have hk3 := pw_cell_below (HS.out).hb hkb
                      have HND := Aside0.mk ((HOK.out).nds row HRM.out alts HAM.out l HLM.out _ (getD_memX zN hlt))
                      have HDJ := Aside0.mk (flatMap_drop (g := needT) (d := zN) hlt)
                      have HKJ := Aside0.mk (show wrap64 ((j : Int) + 1) = ((j + 1 : Nat) : Int) by rw [wr_id (by omega) (by have := HLL.out; omega)]; rfl)
                      clear hk hkb hlt hj
                      generalize l.getD j zN = x at *
                      have hd1 : (dg x.f0.toNat).length ≤ 2 := dg_len (by have := HND.out; omega)
                      have hd2 : (dg x.f1.toNat).length ≤ 2 := dg_len (by have := HND.out; omega)
                      have HI1 := Aside0.mk (fun W => itoa_calls x.f0 (HND.out).1 (by have := HND.out; omega) W)
                      have HI2 := Aside0.mk (fun W => itoa_calls x.f1 (HND.out).2.2.1 (by have := HND.out; omega) W)
                      go_upto_region 25 with (fail)
                      have HSA := Aside0.mk ((HS.out).below (below_alloc (Below.refl _ _) (.cells #[.int .i64 x.f0, .int .i64 x.f1] 83)))
                      have k8 : (wr.alloc (.cells #[.int .i64 x.f0, .int .i64 x.f1] 83)).cell? ⟨wr.heap.size, 0, none⟩ = some (.int .i64 x.f0) := (blk_cell (blk_new wr _) 0).trans rfl
                      have k9 : (wr.alloc (.cells #[.int .i64 x.f0, .int .i64 x.f1] 83)).cell? ⟨wr.heap.size, 1, none⟩ = some (.int .i64 x.f1) := (blk_cell (blk_new wr _) 1).trans rfl
                      clear hk2 hk3 HS
                      generalize wr.alloc (.cells #[.int .i64 x.f0, .int .i64 x.f1] 83) = W8 at *
                      refine wp_region_still_tail 9 (by kernel_rfl) (by kernel_rfl) ?_
                      simp only [List.take_succ_cons, List.take_zero, List.drop_succ_cons, List.drop_zero]
                      repeat (refine wpStill_step (fun K hK => ?_); go_simp; (first | refine hK _ ?_ | (rw [if_neg (by omega)]; go_simp; refine hK _ ?_)); clear hK K)
                      still_call (HI1.out _)
                      repeat (refine wpStill_step (fun K hK => ?_); go_simp; (first | refine hK _ ?_ | (rw [if_neg (by omega)]; go_simp; refine hK _ ?_)); clear hK K)
                      still_call (HI2.out _)
                      repeat (refine wpStill_step (fun K hK => ?_); go_simp; (first | refine hK _ ?_ | (rw [if_neg (by omega)]; go_simp; refine hK _ ?_)); clear hK K)
                      refine wpStill_nil ?_
                      change wpList _ _ _ _ _ W8.drew
                      have HSd := Aside0.mk ((HSA.out).below (below_drew (Below.refl _ _)))
                      clear k8 k9 HSA HI1 HI2
                      generalize W8.drew = W5 at *
                      have HA6 := Aside0.mk (show (acc ++ needT x) ++ ((l.drop (j + 1)).flatMap needT ++ ([10] ++ ((alts.drop (i + 1)).flatMap (altT q f) ++ (rowT q (f + 1) (row.drop (f + 1)) ++ movT (q + 1) (M.drop (q + 1)))))) = putL rk st M by rw [← HA.out, HDJ.out]; simp)
                      have HLA6 := Aside0.mk (show (acc).length + (needT x).length ≤ 1000000 by
                        have h1 := HLN.out
                        rw [← HA6.out, List.length_append, List.length_append] at h1
                        omega)
                      have HWS6 := Aside0.mk (fun (s : ByteArray) (hs : s.data.toList = needT x) => ws_calls b (acc) s _ _ (HSd.out).bb hs (by have := HLA6.out; omega) (HSd.out).hbw)
                      go_wp2_with fail
                      refine ((HWS6.out) _ ?_).mono ?_
                      · first | rfl | (unfold needT; simp; done) | (unfold needT; simp; rfl)
                      rintro E W6 ⟨rfl, hB, hb⟩
                      have HS6 := Aside0.mk ((HSd.out).write hb hB)
                      clear hB hb HWS6 HLA6
                      go_wp2
                      go_roundg (l.length - (j + 1))
                      case measure => have := HLJ.out; omega
                      case rel => exact ⟨j + 1, _, HLJ.out, Nat.le_refl _, by rw [HKJ.out], HS6, HA6⟩
                    · obtain rfl : j = l.length := by omega
                      have HA8 := Aside0.mk (show (acc ++ [10]) ++ ((alts.drop (i + 1)).flatMap (altT q f) ++ (rowT q (f + 1) (row.drop (f + 1)) ++ movT (q + 1) (M.drop (q + 1)))) = putL rk st M by rw [← HA.out, List.drop_length]; simp)
                      have HLA8 := Aside0.mk (show acc.length + 1 ≤ 1000000 by
                        have h1 := HLN.out
                        rw [← HA8.out, List.length_append, List.length_append, List.length_singleton] at h1
                        omega)
                      have HWB := Aside0.mk (wb_calls b acc wr (HS.out).bb (by have := HLA8.out; omega) (HS.out).hbw)
                      clear HA hj hgg hlt
                      go_wp2_with fail
                      refine (HWB.out).mono ?_
                      rintro E W8 ⟨rfl, hB, hb⟩
                      have HS8 := Aside0.mk ((HS.out).write hb hB)
                      clear hB hb
                      go_wp2
                      go_roundg (alts.length - (i + 1))
                      case measure => have := HLI.out; omega
                      case rel => exact ⟨i + 1, _, HLI.out, Nat.le_refl _, by rw [HKI.out], HS8, HA8⟩
                · obtain rfl : i = alts.length := by omega
                  have HA9 := Aside0.mk (show acc ++ (rowT q (f + 1) (row.drop (f + 1)) ++ movT (q + 1) (M.drop (q + 1))) = putL rk st M by rw [← HA.out, List.drop_length]; simp)
                  clear HA hi hgg hlt
                  go_wp2
                  go_roundg (row.length - (f + 1))
                  case measure => have := HLF.out; omega
                  case rel => exact ⟨f + 1, _, HLF.out, Nat.le_refl _, by rw [HKF.out], HS, HA9⟩
            · obtain rfl : f = row.length := by omega
              have HA9 := Aside0.mk (show acc ++ movT (q + 1) (M.drop (q + 1)) = putL rk st M by rw [← HA.out, List.drop_length]; simp [rowT])
              clear HA hf hgg hlt
              go_wp2
              go_roundg (M.length - (q + 1))
              case measure => have := HLT.out; omega
              case rel => exact ⟨q + 1, _, HLT.out, Nat.le_refl _, by rw [HKQ.out], HS, HA9⟩
        · obtain rfl : q = M.length := by omega
          have HACC := Aside0.mk (show acc = putL rk st M by rw [← HA.out, List.drop_length]; simp [movT])
          have HLEN := Aside0.mk (show Calls Tryz.prog 55 #[.pointer (some ⟨b, 0, none⟩)] wr fun e w' => e = .returned (.int .i64 (acc.length : Int)) ∧ w' = wr from by
            have h := Tryz.Builder_Len b b (Lib.byteCells acc) wr (HS.out).bb
            rw [byteCells_len] at h
            exact h)
          have HSTR := Aside0.mk (Tryz.Builder_String_any b b acc wr (HS.out).bb (HS.out).hbw)
          rw [← HACC.out] at HPR
          clear HA hq hgg hlt
          go_wp2_with fail
          refine (HLEN.out).mono ?_
          rintro E W0 ⟨rfl, rfl⟩
          cases q1 : decide ((acc.length : Int) > 65536) with
          | true =>
            have HP := Aside0.mk (show putR rk st M = ([], 3) by rw [HPR.out, if_pos (by have := of_decide_eq_true q1; omega)])
            go_wp2
            go_ret2
            exact ⟨by rw [HP.out]; rfl, (HS.out).hb⟩
          | false =>
            have HP := Aside0.mk (show putR rk st M = (acc, 0) by rw [HPR.out, if_neg (by have := of_decide_eq_false q1; omega)])
            go_wp2_with fail
            refine (HSTR.out).mono ?_
            rintro E W9 ⟨rfl, hb⟩
            have HB9 := Aside0.mk (Below.trans (HS.out).hb (Below.mono hb (Nat.le_of_lt (HS.out).hlt)))
            clear hb
            go_wp2
            go_ret2
            exact ⟨by rw [HP.out]; rfl, HB9.out⟩
end Go.Proofs.YtbmcigakiibncaaGreatDoor.H
namespace Go.Proofs.YtbmcigakiibncaaGreatDoor.H
open Go.RowKit Go.Proofs.YtbmcigakiibncaaGreatDoorW.PrintWords Go.Proofs.YtbmcigakiibncaaGreatDoorW.PrintLast Go.Proofs.YtbmcigakiibncaaGreatDoorW.PrintMore
set_option linter.unusedVariables false
set_option linter.unusedSimpArgs false
structure TX (w : World) (x y z : Value) (W : World) : Prop where
  hb : Below w.heap.size w W
  box : W.heap[w.heap.size]? = some (.cells #[x, y, z] 25 (0, 0))
theorem TX.below {w W W1 : World} {x y z : Value} (h : TX w x y z W) (hb : Below W.heap.size W W1) : TX w x y z W1 :=
  ⟨below_then h.hb h.hb.size hb, blk_below h.box hb⟩
end Go.Proofs.YtbmcigakiibncaaGreatDoor.H
namespace Go.Proofs.YtbmcigakiibncaaGreatDoor.H
open Go.RowKit Go.Proofs.YtbmcigakiibncaaGreatDoorW.PrintWords Go.Proofs.YtbmcigakiibncaaGreatDoorW.PrintLast Go.Proofs.YtbmcigakiibncaaGreatDoorW.PrintMore
open Go.Proofs.YtbmcigakiibncaaGreatDoor.Q (S28 k28 S83 k83)
set_option linter.unusedVariables false
def sgI (z : Int) : Int := if z < 0 then -1 else if z = 0 then 0 else 1
theorem sgI_neg (z : Int) : sgI z < 0 ↔ z < 0 := by unfold sgI; split <;> (try split) <;> omega
theorem sgI_zero (z : Int) : sgI z = 0 ↔ z = 0 := by unfold sgI; split <;> (try split) <;> omega
def allF (p : Nat → Bool) : Nat → Nat → Bool
  | _, 0 => true
  | j, d + 1 => p j && allF p (j + 1) d
theorem allF_iff (p : Nat → Bool) (d : Nat) : ∀ j, allF p j d = true ↔ ∀ i, j ≤ i → i < j + d → p i = true := by
  induction d with
  | zero => intro j; simp [allF]; omega
  | succ d ih =>
    intro j
    rw [allF, Bool.and_eq_true, ih]
    constructor
    · rintro ⟨h1, h2⟩ i hi hl
      rcases Nat.eq_or_lt_of_le hi with rfl | h
      · exact h1
      · exact h2 i (by omega) (by omega)
    · exact fun h => ⟨h j (Nat.le_refl _) (by omega), fun i hi hl => h i (by omega) (by omega)⟩
theorem beforeR_ev (x y : Nd) : Ev (fun k => Q.virgationref09_Before.f k x.f0 x.f1 y.f0 y.f1) (sgI (befI x y)) := by
  unfold Q.virgationref09_Before.f
  by_cases h : x.f0 = y.f0
  · rw [show befI x y = x.f1 - y.f1 by simp [befI, h]]
    simp only [if_pos h]
    refine ev_end fun k => ?_
    simp only [Q.virgationref09_Before.j0, sgI]
    by_cases h1 : x.f1 < y.f1
    · rw [decide_eq_true h1, if_pos rfl, if_pos (show x.f1 - y.f1 < 0 by omega)]
    · rw [decide_eq_false h1, if_neg (by simp), if_neg (show ¬ x.f1 - y.f1 < 0 by omega)]
      by_cases h2 : x.f1 = y.f1
      · rw [if_pos (show (x.f0 == y.f0 && x.f1 == y.f1) = true by rw [h, h2]; simp), if_pos (show x.f1 - y.f1 = 0 by omega)]
      · rw [if_neg (by rw [Bool.and_eq_true, beq_iff_eq, beq_iff_eq]; exact fun hh => h2 hh.2), if_neg (show ¬ x.f1 - y.f1 = 0 by omega)]
  · rw [show befI x y = x.f0 - y.f0 by simp [befI, h]]
    by_cases h1 : x.f0 < y.f0
    · simp only [if_neg h, if_pos h1]
      refine ev_end fun k => ?_
      simp only [Q.virgationref09_Before.j0, sgI]
      rw [if_pos trivial, if_pos (show x.f0 - y.f0 < 0 by omega)]
    · simp only [if_neg h, if_neg h1]
      refine ev_end fun k => ?_
      simp only [Q.virgationref09_Before.j0, sgI]
      rw [if_neg (by simp), if_neg (by rw [Bool.and_eq_true, beq_iff_eq, beq_iff_eq]; exact fun hh => h hh.1), if_neg (show ¬ x.f0 - y.f0 < 0 by omega), if_neg (show ¬ x.f0 - y.f0 = 0 by omega)]
theorem rdN_at {l : List Nd} {j : Nat} : Q.rd_T83 l (j : Int) = l.getD j zN := by simp [Q.rd_T83, zN, Q.z83]
theorem getD_memD {α : Type} {l : List α} {i : Nat} (d : α) (h : i < l.length) : l.getD i d ∈ l := by
  rw [List.getD_eq_getElem?_getD, List.getElem?_eq_getElem h]; exact List.getElem_mem h
theorem wrap_pred {j : Nat} (h : j < 9223372036854775807) : wrap64 (((j + 1 : Nat) : Int) - 1) = (j : Int) := by unfold wrap64; omega
theorem compareR_ev (a b : List Nd) (ha : a.length ≤ 9223372036854775807) (d : Nat) : ∀ j : Nat, a.length - j = d → j ≤ a.length → j ≤ b.length → Ev (fun k => Q.virgationref09_Compare.l0 k a b (j : Int)) (sgI (cmpL (a.drop j) (b.drop j))) := by
  induction d with
  | zero =>
    intro j hd hj hjb
    rw [List.drop_eq_nil_of_le (show a.length ≤ j by omega)]
    have h : Ev (fun k => Q.virgationref09_Compare.j1 k a b (j : Int) false) (sgI (cmpL [] (b.drop j))) := by
      refine ev_end fun k => ?_
      simp only [Q.virgationref09_Compare.j1]
      rw [if_neg (by simp)]
      cases e : b.drop j with
      | nil =>
        have := List.drop_eq_nil_iff.1 e
        rw [if_neg (by omega), if_neg (by omega)]; rfl
      | cons y r =>
        have : j < b.length := by
          apply Classical.byContradiction; intro hc
          rw [List.drop_eq_nil_of_le (by omega)] at e; cases e
        rw [if_pos (by omega)]; rfl
    refine ev_next h fun k => ?_
    simp only [Q.virgationref09_Compare.l0]
    rw [if_neg (by omega)]
  | succ d ih =>
    intro j hd hj hjb
    have hja : j < a.length := by omega
    by_cases hb : j < b.length
    · have e1 : a.drop j = a.getD j zN :: a.drop (j + 1) := by rw [List.drop_eq_getElem_cons hja]; simp [List.getD_eq_getElem?_getD, hja]
      have e2 : b.drop j = b.getD j zN :: b.drop (j + 1) := by rw [List.drop_eq_getElem_cons hb]; simp [List.getD_eq_getElem?_getD, hb]
      have h : Ev (fun k => Q.virgationref09_Compare.j1 k a b (j : Int) true) (sgI (cmpL (a.drop j) (b.drop j))) := by
        refine ev_next (f := fun k => (Q.virgationref09_Before.f k ((Q.rd_T83 a j).f0) ((Q.rd_T83 a j).f1) ((Q.rd_T83 b j).f0) ((Q.rd_T83 b j).f1)).bind fun t => if t = 0 then Q.virgationref09_Compare.l0 k a b ((j + 1 : Nat) : Int) else some t) (Ev.bind (beforeR_ev (Q.rd_T83 a j) (Q.rd_T83 b j)) ?_) fun k => ?_
        · rw [rdN_at, rdN_at, e1, e2]
          by_cases hz : befI (a.getD j zN) (b.getD j zN) = 0
          · rw [cmpL, if_neg (fun h => h hz)]
            simp only [if_pos ((sgI_zero _).2 hz)]
            exact ih (j + 1) (by omega) (by omega) (by omega)
          · rw [cmpL, if_pos hz]
            simp only [if_neg (fun h => hz ((sgI_zero _).1 h))]
            exact ev_end fun k => rfl
        · simp only [Q.virgationref09_Compare.j1]
          rw [if_pos trivial, if_pos (by omega), if_pos (by omega), if_pos (by omega), wrap_succ (by omega) (by omega)]
          rfl
      refine ev_next h fun k => ?_
      simp only [Q.virgationref09_Compare.l0]
      rw [if_pos (by omega), decide_eq_true (by omega : (j : Int) < (b.length : Int))]
    · have h : Ev (fun k => Q.virgationref09_Compare.j1 k a b (j : Int) false) (sgI (cmpL (a.drop j) (b.drop j))) := by
        refine ev_end fun k => ?_
        simp only [Q.virgationref09_Compare.j1]
        rw [if_neg (by simp), if_neg (by omega), if_pos (by omega), List.drop_eq_nil_of_le (show b.length ≤ j by omega), List.drop_eq_getElem_cons hja, cmpL]
        rfl
      refine ev_next h fun k => ?_
      simp only [Q.virgationref09_Compare.l0]
      rw [if_pos (by omega), decide_eq_false (by omega : ¬ (j : Int) < (b.length : Int))]
theorem compareF_ev (a b : List Nd) (ha : a.length ≤ 9223372036854775807) : Ev (fun k => Q.virgationref09_Compare.f k a b) (sgI (cmpL a b)) := compareR_ev a b ha _ 0 rfl (Nat.zero_le _) (Nat.zero_le _)
def altAt (l : List Nd) (r n : Int) (i : Nat) : Bool := !(nbad r n (l.getD i zN)) && (decide (i = 0) || decide (befI (l.getD (i - 1) zN) (l.getD i zN) < 0))
def altB (r n : Int) (l : List Nd) : Bool := allF (altAt l r n) 0 l.length
theorem altB_eq (r n : Int) (l : List Nd) : altB r n l = (!(l.any (nbad r n)) && upN l) := by
  rw [Bool.eq_iff_iff, Bool.and_eq_true]
  unfold altB upN
  rw [allF_iff, List.all_eq_true]
  constructor
  · intro h
    constructor
    · rw [Bool.not_eq_true']
      cases e : l.any (nbad r n) with
      | false => rfl
      | true =>
        obtain ⟨x, hx, hb⟩ := List.any_eq_true.1 e
        obtain ⟨i, hi, rfl⟩ := List.mem_iff_getElem.1 hx
        have h1 := h i (Nat.zero_le _) (by omega)
        unfold altAt at h1
        rw [List.getD_eq_getElem?_getD, List.getElem?_eq_getElem hi] at h1
        simp only [Option.getD_some, hb] at h1
        cases h1
    · intro i hi
      have hi := List.mem_range.1 hi
      have h1 := h (i + 1) (Nat.zero_le _) (by omega)
      unfold altAt at h1
      rw [Bool.and_eq_true] at h1
      simpa using h1.2
  · rintro ⟨h1, h2⟩ i _ hi
    unfold altAt
    rw [Bool.and_eq_true]
    constructor
    · rw [Bool.not_eq_true']
      rw [Bool.not_eq_true'] at h1
      cases e : nbad r n (l.getD i zN) with
      | false => rfl
      | true => rw [List.any_eq_true.2 ⟨_, getD_memD zN (show i < l.length by omega), e⟩] at h1; cases h1
    · by_cases h0 : i = 0
      · simp [h0]
      · have h3 := h2 (i - 1) (List.mem_range.2 (by omega))
        rw [show i - 1 + 1 = i by omega] at h3
        rw [h3, Bool.or_true]
def altLAt (l : List (List Nd)) (r n : Int) (i : Nat) : Bool := altB r n (l.getD i []) && (decide (i = 0) || decide (cmpL (l.getD (i - 1) []) (l.getD i []) < 0))
theorem rdL2_at {l : List (List Nd)} {j : Nat} : Q.rd_L2 l (j : Int) = l.getD j [] := by simp [Q.rd_L2]
def altsB (r n : Int) (l : List (List Nd)) : Bool := decide (l.length ≤ 12) && allF (altLAt l r n) 0 l.length
theorem altsB_eq (r n : Int) (l : List (List Nd)) : altsB r n l = (decide (l.length ≤ 12) && l.all (altB r n) && upL l) := by
  rw [Bool.eq_iff_iff]
  unfold altsB upL
  rw [Bool.and_eq_true, Bool.and_eq_true, Bool.and_eq_true, allF_iff, List.all_eq_true, List.all_eq_true]
  constructor
  · rintro ⟨h0, h⟩
    refine ⟨⟨h0, fun x hx => ?_⟩, fun i hi => ?_⟩
    · obtain ⟨i, hi, rfl⟩ := List.mem_iff_getElem.1 hx
      have h1 := h i (Nat.zero_le _) (by omega)
      unfold altLAt at h1
      rw [List.getD_eq_getElem?_getD, List.getElem?_eq_getElem hi, Bool.and_eq_true] at h1
      exact h1.1
    · have hi := List.mem_range.1 hi
      have h1 := h (i + 1) (Nat.zero_le _) (by omega)
      unfold altLAt at h1
      rw [Bool.and_eq_true] at h1
      simpa using h1.2
  · rintro ⟨⟨h0, h1⟩, h2⟩
    refine ⟨h0, fun i _ hi => ?_⟩
    unfold altLAt
    rw [Bool.and_eq_true]
    refine ⟨h1 _ (getD_memD [] (by omega)), ?_⟩
    by_cases h0 : i = 0
    · simp [h0]
    · have h3 := h2 (i - 1) (List.mem_range.2 (by omega))
      rw [show i - 1 + 1 = i by omega] at h3
      rw [h3, Bool.or_true]
end Go.Proofs.YtbmcigakiibncaaGreatDoor.H
