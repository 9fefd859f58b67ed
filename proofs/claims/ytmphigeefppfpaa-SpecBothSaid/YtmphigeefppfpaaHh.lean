/- The step of the least graph (spec.least's function value), and the map of the first states. -/
import Derived.Test.YtmphigeefppfpaaHf
namespace Go.Proofs.Ytmphigeefppfpaa.H
open Go.RowKit Go.Proofs.YtmphigeefppfpaaW.PrintWords Go.Proofs.YtmphigeefppfpaaW.PrintLast Go.Proofs.YtmphigeefppfpaaW.PrintMore
set_option linter.unusedVariables false

def graphOk (n : Nat) (g : List (List Int)) : Prop := ∀ row ∈ g, row.length = n ∧ ∀ r ∈ row, -1 ≤ r ∧ r < (g.length : Int)
/-- The first state of each class, of the last d states. -/
def firstTo (K : List Int) : Nat → List (Int × Nat)
  | 0 => []
  | d + 1 => mput (rd K ((K.length - 1 - d : Nat) : Int)) (K.length - 1 - d) (firstTo K d)
theorem firstTo_get (K : List Int) (d : Nat) (hd : d ≤ K.length) (x : Int) : mget x (firstTo K d) = if x ∈ K.drop (K.length - d) then some (K.length - d + place x (K.drop (K.length - d))) else none := by
  induction d with
  | zero => rw [Nat.sub_zero, List.drop_eq_nil_of_le (Nat.le_refl _)]; simp [firstTo, mget]
  | succ d ih =>
    have hlt : K.length - 1 - d < K.length := by omega
    simp only [firstTo]
    rw [mget_mput, ih (by omega), show K.length - (d + 1) = K.length - 1 - d from by omega, List.drop_eq_getElem_cons hlt, rd_at hlt, show K.length - 1 - d + 1 = K.length - d from by omega]
    by_cases hx : x = K[K.length - 1 - d]
    · rw [if_pos hx, if_pos (by rw [hx]; exact List.mem_cons_self)]
      simp [place, hx]
    · rw [if_neg hx]
      simp only [List.mem_cons, hx, false_or]
      split
      · rw [place, place, List.idxOf_cons, beq_eq_false_iff_ne.2 (Ne.symm hx)]
        simp only [cond_false]
        congr 1; omega
      · rfl
theorem firstTo_all (K : List Int) (x : Int) (hx : x ∈ K) : mget x (firstTo K K.length) = some (place x K) := by
  rw [firstTo_get K K.length (Nat.le_refl _)]
  simp [hx]
theorem place_lt {x : Int} {K : List Int} (hx : x ∈ K) : place x K < K.length := List.idxOf_lt_length_of_mem hx

/-- A class's step: that of its first state. -/
def stepL (g : List (List Int)) (K : List Int) (x : Int) (e : Nat) : Int × Bool :=
  if rd (Q.rd_L1 g (place x K : Nat)) e < 0 then (0, false) else (rd K (rd (Q.rd_L1 g (place x K : Nat)) e), true)
theorem row_at {n : Nat} {g : List (List Int)} (hok : graphOk n g) {j : Nat} (hj : j < g.length) : (Q.rd_L1 g (j : Int)).length = n ∧ ∀ r ∈ Q.rd_L1 g (j : Int), -1 ≤ r ∧ r < (g.length : Int) := by
  rw [rdL_at hj]; exact hok _ (List.getElem_mem hj)
theorem stepL_dom {n : Nat} {g : List (List Int)} {K : List Int} (hok : graphOk n g) (hK : K.length = g.length) (x : Int) (e : Nat) (hx : x ∈ K) (he : e < n) (h : (stepL g K x e).2 = true) : (stepL g K x e).1 ∈ K := by
  have h1 := row_at hok (j := place x K) (by rw [← hK]; exact place_lt hx)
  have h2 := h1.2 (rd (Q.rd_L1 g (place x K : Nat)) e) (rd_mem (by omega))
  unfold stepL at h ⊢
  split
  · rename_i hneg
    rw [if_pos hneg] at h; cases h
  · exact rd_mem' (by omega) (by omega)
set_option maxHeartbeats 1000000 in
theorem least1_calls (n : Nat) (g : List (List Int)) (K : List Int) (A AK : Option Addr) (cg ck : Nat) (gb fb cb MB : Nat) (x : Int) (e : Nat) (w : World) (hg : w.heap[gb]? = some (.cells #[.slice A g.length cg] 67 (0, 0))) (hf : w.heap[fb]? = some (.cells #[.map (some MB)] 86 (0, 0))) (hc : w.heap[cb]? = some (.cells #[.slice AK K.length ck] 25 (0, 0)))
    (hm : MapIs w MB (Value.int .i64) encN wf64 (firstTo K K.length)) (hr : Kd.C (Kd.slice 3 (Kd.int .i64)) w A g.length g) (hk : Kd.C (Kd.int .i64) w AK K.length K) (hok : graphOk n g) (hK : K.length = g.length) (hwf : ∀ x ∈ K, wf64 x) (hx : x ∈ K) (he : e < n) :
    Calls Try.prog 64 #[.int .i64 x, .int .i64 e, .pointer (some ⟨gb, 0, none⟩), .pointer (some ⟨fb, 0, none⟩), .pointer (some ⟨cb, 0, none⟩)] w fun E w' => E = .returned (.tuple #[.int .i64 (stepL g K x e).1, .bool (stepL g K x e).2]) ∧ Below w.heap.size w w' := by
  have hpl : place x K < g.length := by rw [← hK]; exact place_lt hx
  have hrow := row_at hok hpl
  have hrange := hrow.2 (rd (Q.rd_L1 g (place x K : Nat)) e) (rd_mem (by omega))
  have hl := MapIs.look hm keyInt Try.underlying86 (zero3 w) (hwf x hx) false
  rw [firstTo_all K x hx] at hl
  simp only [Bool.false_eq_true, if_false] at hl
  have hl' : (Instr.lookup 86 (.map (some MB)) (.int .i64 x) false).run Try.prog w = .ok (.int .i64 (place x K : Nat)) w := hl
  clear hl
  obtain ⟨ad, A0, c0, e0, hxr, hlr, hrr⟩ := Q.at_L1 hr (place x K : Nat) (by omega) (by omega)
  cases e0
  rw [Int.toNat_natCast] at hxr
  obtain ⟨ad2, e0, hxe⟩ := Kd.at_int hrr (e : Int) (by omega) (by omega)
  cases e0
  rw [Int.toNat_natCast] at hxe
  have hz0 : w.cell? ⟨gb, 0, none⟩ = some (.slice (some ad) g.length cg) := (blk_cell hg 0).trans rfl
  have hz1 : w.cell? ⟨fb, 0, none⟩ = some (.map (some MB)) := (blk_cell hf 0).trans rfl
  have hplz : ((place x K : Nat) : Int) < (g.length : Int) := by omega
  have hez : (e : Int) < ((Q.rd_L1 g (place x K : Nat)).length : Int) := by omega
  have HH := Aside0.mk (show stepL g K x e = if rd (Q.rd_L1 g (place x K : Nat)) e < 0 then (0, false) else (rd K (rd (Q.rd_L1 g (place x K : Nat)) e), true) from rfl)
  clear hrow hg hf hm hr hok hrr hwf hx
  have HKL := Aside0.mk hK
  clear hK
  generalize Q.rd_L1 g (place x K : Nat) = y at *
  generalize rd y (e : Int) = r at *
  generalize place x K = p at *
  obtain ⟨hr0, hr1⟩ := hrange
  by_cases hneg : r < 0
  · have hn : decide (r < 0) = true := by simpa using hneg
    rw [if_pos hneg] at HH
    clear hneg
    rw [HH.out]
    go_enter Try.func64, Try.ntmps64
    go_wp2
    go_ret2
    exact ⟨rfl, Below.refl _ _⟩
  · have hn : decide (r < 0) = false := by simpa using hneg
    rw [if_neg hneg] at HH
    obtain ⟨ad3, e0, hxk⟩ := Kd.at_int hk r (by omega) (by have := HKL.out; omega)
    cases e0
    have hz2 : w.cell? ⟨cb, 0, none⟩ = some (.slice (some ad3) K.length ck) := (blk_cell hc 0).trans rfl
    have hrk : r < (K.length : Int) := by have := HKL.out; omega
    have hr00 : 0 ≤ r := by omega
    clear hneg hk hc
    rw [HH.out]
    go_enter Try.func64, Try.ntmps64
    go_wp2
    go_ret2
    exact ⟨rfl, Below.refl _ _⟩
end Go.Proofs.Ytmphigeefppfpaa.H
