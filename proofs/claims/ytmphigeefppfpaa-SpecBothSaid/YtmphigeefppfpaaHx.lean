/- The reference's least: its classes, as lists; alike. -/
import Derived.Test.YtmphigeefppfpaaHf
import Derived.Test.YtmphigeefppfpaaQ6
namespace Go.Proofs.Ytmphigeefppfpaa.H
open Go.RowKit Go.Proofs.YtmphigeefppfpaaW.PrintWords Go.Proofs.YtmphigeefppfpaaW.PrintLast Go.Proofs.YtmphigeefppfpaaW.PrintMore
set_option linter.unusedVariables false

/-- From event e on: the same events, to the same classes. -/
def alikeFrom (n : Nat) (l : List (List Int)) (c : List Int) (p q : Int) (e : Nat) : Prop := ∀ f, e ≤ f → f < n → (stepS l p f).2 = (stepS l q f).2 ∧ ((stepS l p f).2 = true → rd c (stepS l p f).1 = rd c (stepS l q f).1)
open Classical in
noncomputable def alikeB (n : Nat) (l : List (List Int)) (c : List Int) (p q : Int) : Bool := decide (alikeFrom n l c p q 0)
/-- What the table must be: n events, no step beyond it. -/
def tableOk (n : Nat) (l : List (List Int)) : Prop := ∀ row ∈ l, row.length = n ∧ ∀ r ∈ row, -1 ≤ r ∧ r < (l.length : Int)
theorem trow {n : Nat} {l : List (List Int)} (h : tableOk n l) {q : Int} (hq : domS l q) : (Q.rd_L1 l q).length = n ∧ ∀ r ∈ Q.rd_L1 l q, -1 ≤ r ∧ r < (l.length : Int) := by
  have h2 : q.toNat < l.length := by have := hq.1; have := hq.2; omega
  have h3 : Q.rd_L1 l q = l[q.toNat] := by simp [Q.rd_L1, List.getD_eq_getElem?_getD, List.getElem?_eq_getElem h2]
  rw [h3]; exact h _ (List.getElem_mem h2)
open Classical in
theorem alike_ev (n : Nat) (st : Int) (l : List (List Int)) (c : List Int) (hl : tableOk n l) (hn : n ≤ 1000) (hc : c.length = l.length) (p q : Int) (hp : domS l p) (hq : domS l q) (d : Nat) : ∀ e, n - e = d → e ≤ n →
    Ev (fun k => Q.virgationref11_alike.l0 k p q c (n : Int) (e : Int) (n : Int) st l) (decide (alikeFrom n l c p q e)) := by
  obtain ⟨lp, rp⟩ := trow hl hp
  obtain ⟨lq, rq⟩ := trow hl hq
  induction d with
  | zero =>
    intro e hd he
    rw [decide_eq_true (show alikeFrom n l c p q e from fun f h1 h2 => absurd h2 (by omega))]
    refine ev_end fun k => ?_
    simp only [Q.virgationref11_alike.l0]
    rw [if_neg (by omega)]
  | succ d ih =>
    intro e hd he
    have hlt : e < n := by omega
    have hrp := rp _ (rd_mem (k := e) (by omega))
    have hrq := rq _ (rd_mem (k := e) (by omega))
    have hst : ∀ x, stepS l x e = (rd (Q.rd_L1 l x) e, decide (rd (Q.rd_L1 l x) e ≥ 0)) := fun x => rfl
    have hsplit : alikeFrom n l c p q e ↔ ((stepS l p e).2 = (stepS l q e).2 ∧ ((stepS l p e).2 = true → rd c (stepS l p e).1 = rd c (stepS l q e).1)) ∧ alikeFrom n l c p q (e + 1) :=
      ⟨fun h => ⟨h e (Nat.le_refl _) hlt, fun f h1 h2 => h f (by omega) h2⟩, fun h f h1 h2 => by
        rcases Nat.lt_or_ge e f with h3 | h3
        · exact h.2 f h3 h2
        · obtain rfl : e = f := by omega
          exact h.1⟩
    have ih' := ih (e + 1) (by omega) (by omega)
    rw [hst, hst] at hsplit
    simp only at hsplit
    have hp0 := hp.1; have hp1 := hp.2; have hq0 := hq.1; have hq1 := hq.2
    by_cases n1 : rd (Q.rd_L1 l p) e < 0
    · by_cases n2 : rd (Q.rd_L1 l q) e < 0
      · have : decide (alikeFrom n l c p q e) = decide (alikeFrom n l c p q (e + 1)) := by
          rw [decide_eq_decide, hsplit, decide_eq_false (by omega : ¬ rd (Q.rd_L1 l p) e ≥ 0), decide_eq_false (by omega : ¬ rd (Q.rd_L1 l q) e ≥ 0)]
          simp
        rw [this]
        refine ev_next ih' fun k => ?_
        simp only [Q.virgationref11_alike.l0]
        rw [if_pos (by omega), if_pos (by omega), if_pos (by omega), if_pos (by omega), if_pos (by omega), if_pos (by omega), if_pos (by omega), if_pos (by omega), decide_eq_true n1, decide_eq_true n2, if_neg (by decide), if_neg (by omega), wrap_succ (by omega) (by omega)]
        rfl
      · have : decide (alikeFrom n l c p q e) = false := by
          rw [decide_eq_false_iff_not, hsplit, decide_eq_false (by omega : ¬ rd (Q.rd_L1 l p) e ≥ 0), decide_eq_true (by omega : rd (Q.rd_L1 l q) e ≥ 0)]
          simp
        rw [this]
        refine ev_end fun k => ?_
        simp only [Q.virgationref11_alike.l0]
        rw [if_pos (by omega), if_pos (by omega), if_pos (by omega), if_pos (by omega), if_pos (by omega), if_pos (by omega), if_pos (by omega), if_pos (by omega), decide_eq_true n1, decide_eq_false n2, if_pos (by decide)]
    · by_cases n2 : rd (Q.rd_L1 l q) e < 0
      · have : decide (alikeFrom n l c p q e) = false := by
          rw [decide_eq_false_iff_not, hsplit, decide_eq_true (by omega : rd (Q.rd_L1 l p) e ≥ 0), decide_eq_false (by omega : ¬ rd (Q.rd_L1 l q) e ≥ 0)]
          simp
        rw [this]
        refine ev_end fun k => ?_
        simp only [Q.virgationref11_alike.l0]
        rw [if_pos (by omega), if_pos (by omega), if_pos (by omega), if_pos (by omega), if_pos (by omega), if_pos (by omega), if_pos (by omega), if_pos (by omega), decide_eq_false n1, decide_eq_true n2, if_pos (by decide)]
      · by_cases he2 : rd c (rd (Q.rd_L1 l p) e) = rd c (rd (Q.rd_L1 l q) e)
        · have : decide (alikeFrom n l c p q e) = decide (alikeFrom n l c p q (e + 1)) := by
            rw [decide_eq_decide, hsplit, decide_eq_true (by omega : rd (Q.rd_L1 l p) e ≥ 0), decide_eq_true (by omega : rd (Q.rd_L1 l q) e ≥ 0)]
            simp [he2]
          rw [this]
          refine ev_next ih' fun k => ?_
          simp only [Q.virgationref11_alike.l0]
          rw [if_pos (by omega), if_pos (by omega), if_pos (by omega), if_pos (by omega), if_pos (by omega), if_pos (by omega), if_pos (by omega), if_pos (by omega), decide_eq_false n1, decide_eq_false n2, if_neg (by decide), if_pos (by omega), if_pos (by omega), if_pos (by omega), if_pos (by omega), if_pos (by omega), if_pos he2, wrap_succ (by omega) (by omega)]
          rfl
        · have : decide (alikeFrom n l c p q e) = false := by
            rw [decide_eq_false_iff_not, hsplit, decide_eq_true (by omega : rd (Q.rd_L1 l p) e ≥ 0), decide_eq_true (by omega : rd (Q.rd_L1 l q) e ≥ 0)]
            simp [he2]
          rw [this]
          refine ev_end fun k => ?_
          simp only [Q.virgationref11_alike.l0]
          rw [if_pos (by omega), if_pos (by omega), if_pos (by omega), if_pos (by omega), if_pos (by omega), if_pos (by omega), if_pos (by omega), if_pos (by omega), decide_eq_false n1, decide_eq_false n2, if_neg (by decide), if_pos (by omega), if_pos (by omega), if_pos (by omega), if_pos (by omega), if_pos (by omega), if_neg he2]
theorem alike_calls (n : Nat) (st : Int) (A : Option Addr) (cl : Nat) (l : List (List Int)) (p q : Int) (A3 : Option Addr) (c3 : Nat) (c : List Int) (w : World) (hr : Kd.C (Kd.slice 3 (Kd.int .i64)) w A l.length l) (hcl : l.length ≤ cl) (hr3 : Kd.C (Kd.int .i64) w A3 c.length c) (hc3 : c.length ≤ c3)
    (hl : tableOk n l) (hn : n ≤ 1000) (hc : c.length = l.length) (hp : domS l p) (hq : domS l q) :
    Calls Try.prog 66 #[.agg #[.int .i64 n, .int .i64 st, .slice A l.length cl], .int .i64 p, .int .i64 q, .slice A3 c.length c3] w fun e w' => e = .returned (.bool (alikeB n l c p q)) ∧ Below w.heap.size w w' := by
  obtain ⟨k, hk⟩ := (alike_ev n st l c hl hn hc p q hp hq n 0 rfl (by omega)).rounds
  exact Q.virgationref11_alike.calls k n st A cl l p q A3 c3 c _ w hr hcl hr3 hc3 hk

/-! ### the classes of the rounds -/
/-- The first state below q that is like it, of the last d; else q. -/
def lowTo (rel : Nat → Bool) (q : Nat) : Nat → Nat
  | 0 => q
  | d + 1 => if rel (q - 1 - d) then q - 1 - d else lowTo rel q d
noncomputable def relB (n : Nat) (l : List (List Int)) (c : List Int) (q p : Nat) : Bool := decide (rd c p = rd c q) && alikeB n l c p q
noncomputable def refNext (n : Nat) (l : List (List Int)) (c : List Int) : Nat → List Int
  | 0 => []
  | j + 1 => refNext n l c j ++ [(lowTo (relB n l c j) j j : Int)]
noncomputable def refCls (n : Nat) (l : List (List Int)) : Nat → List Int
  | 0 => List.replicate l.length 0
  | k + 1 => refNext n l (refCls n l k) l.length
theorem refNext_len (n : Nat) (l : List (List Int)) (c : List Int) (j : Nat) : (refNext n l c j).length = j := by
  induction j with
  | zero => rfl
  | succ j ih => simp [refNext, ih]
theorem refCls_len (n : Nat) (l : List (List Int)) (k : Nat) : (refCls n l k).length = l.length := by
  cases k with
  | zero => simp [refCls]
  | succ k => exact refNext_len _ _ _ _
theorem lowTo_le (rel : Nat → Bool) (q d : Nat) : lowTo rel q d ≤ q := by
  induction d with
  | zero => exact Nat.le_refl _
  | succ d ih =>
    simp only [lowTo]
    split
    · omega
    · exact ih
theorem refNext_range (n : Nat) (l : List (List Int)) (c : List Int) (j : Nat) : ∀ x ∈ refNext n l c j, 0 ≤ x ∧ x < (j : Int) := by
  induction j with
  | zero => simp [refNext]
  | succ j ih =>
    intro x hx
    simp only [refNext, List.mem_append, List.mem_singleton] at hx
    rcases hx with hx | hx
    · have := ih x hx; omega
    · have := lowTo_le (relB n l c j) j j
      omega
theorem refCls_range (n : Nat) (l : List (List Int)) (h : 1 ≤ l.length) (k : Nat) : ∀ x ∈ refCls n l k, 0 ≤ x ∧ x < (l.length : Int) := by
  cases k with
  | zero =>
    intro x hx
    simp only [refCls, List.mem_replicate] at hx
    omega
  | succ k => exact refNext_range _ _ _ _
end Go.Proofs.Ytmphigeefppfpaa.H
