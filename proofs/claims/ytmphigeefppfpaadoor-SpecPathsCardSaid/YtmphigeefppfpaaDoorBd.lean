/- bits.TrailingZeros at small numbers, and the list of a mask's bits. -/
import Derived.Test.YtmphigeefppfpaaDoorBc
namespace Go.Proofs.YtmphigeefppfpaaDoor.H
open Go.RowKit Go.Proofs.YtmphigeefppfpaaDoorW.PrintWords Go.Proofs.YtmphigeefppfpaaDoorW.PrintLast Go.Proofs.YtmphigeefppfpaaDoorW.PrintMore
set_option linter.unusedVariables false

/-- The places of the table of package math/bits that small numbers read. -/
def Tab (w : World) : Prop := w.cell? ⟨1, 0, none⟩ = some (.int .u8 0) ∧ w.cell? ⟨1, 1, none⟩ = some (.int .u8 1) ∧ w.cell? ⟨1, 3, none⟩ = some (.int .u8 2) ∧ w.cell? ⟨1, 7, none⟩ = some (.int .u8 3) ∧ w.cell? ⟨1, 15, none⟩ = some (.int .u8 4) ∧ w.cell? ⟨1, 31, none⟩ = some (.int .u8 5)
theorem Tab.below {w w1 : World} (h : Tab w) (hb : Below w.heap.size w w1) : Tab w1 := by
  obtain ⟨h0, h1, h2, h3, h4, h5⟩ := h
  exact ⟨pw_cell_below hb h0, pw_cell_below hb h1, pw_cell_below hb h2, pw_cell_below hb h3, pw_cell_below hb h4, pw_cell_below hb h5⟩
/-- The lowest bit of a number below 64. -/
def low (x : Nat) : Nat := if x % 2 = 1 then 0 else if x % 4 = 2 then 1 else if x % 8 = 4 then 2 else if x % 16 = 8 then 3 else if x % 32 = 16 then 4 else 5
def lowAt (x : Nat) : Nat := if x % 2 = 1 then 0 else if x % 4 = 2 then 1 else if x % 8 = 4 then 3 else if x % 16 = 8 then 7 else if x % 32 = 16 then 15 else 31
def tzAt (x : Int) : Int := IntKind.u64.wrap (bits BinOp.and IntKind.u64 x (IntKind.u64.wrap (-x)) * 285870213051353865) / 288230376151711744
theorem tzAt_all : ((List.range 64).all fun x => x == 0 || tzAt (x : Int) == (lowAt x : Int)) = true := by kernel_rfl
theorem tzAt_eq {x : Nat} (h0 : x ≠ 0) (h1 : x < 64) : tzAt (x : Int) = (lowAt x : Int) := by
  have h := List.all_eq_true.1 tzAt_all x (List.mem_range.2 h1)
  simpa [h0] using h
theorem Tab.at {w : World} (h : Tab w) (x : Nat) : w.cell? ⟨1, lowAt x, none⟩ = some (.int .u8 (low x : Int)) := by
  obtain ⟨h0, h1, h2, h3, h4, h5⟩ := h
  unfold lowAt low
  by_cases a0 : x % 2 = 1
  · rw [if_pos a0, if_pos a0]; exact h0
  rw [if_neg a0, if_neg a0]
  by_cases a1 : x % 4 = 2
  · rw [if_pos a1, if_pos a1]; exact h1
  rw [if_neg a1, if_neg a1]
  by_cases a2 : x % 8 = 4
  · rw [if_pos a2, if_pos a2]; exact h2
  rw [if_neg a2, if_neg a2]
  by_cases a3 : x % 16 = 8
  · rw [if_pos a3, if_pos a3]; exact h3
  rw [if_neg a3, if_neg a3]
  by_cases a4 : x % 32 = 16
  · rw [if_pos a4, if_pos a4]; exact h4
  rw [if_neg a4, if_neg a4]; exact h5
theorem low_le (x : Nat) : low x ≤ 5 := by unfold low; repeat' split
                                           all_goals omega
theorem tz64_calls (x : Nat) (h0 : x ≠ 0) (h1 : x < 64) (w : World) (h : Tab w) : Calls Tryd.prog 47 #[.int .u64 (x : Int)] w fun E w' => E = .returned (.int .i64 (low x : Int)) ∧ w' = w := by
  have e := tzAt_eq h0 h1
  have hc := h.at x
  have hl := low_le x
  rw [show lowAt x = (tzAt (x : Int)).toNat by rw [e]; rfl] at hc
  have hb : 0 ≤ tzAt (x : Int) ∧ tzAt (x : Int) < 64 := by rw [e]; unfold lowAt; repeat' split
                                                           all_goals omega
  have hx : ¬ (x : Int) = 0 := by omega
  unfold tzAt at hc hb
  obtain ⟨hb0, hb1⟩ := hb
  clear e h h0
  go_enter Tryd.func47, Tryd.ntmps47
  go_wp2
  go_ret
  exact ⟨rfl, rfl⟩
theorem tz_calls (x : Nat) (h0 : x ≠ 0) (h1 : x < 64) (w : World) (h : Tab w) : Calls Tryd.prog 41 #[.int .u64 (x : Int)] w fun E w' => E = .returned (.int .i64 (low x : Int)) ∧ w' = w := by
  have H := Aside0.mk (tz64_calls x h0 h1 w h)
  clear h h0 h1
  go_enter Tryd.func41, Tryd.ntmps41
  go_wp2_with fail
  refine (H.out).mono ?_
  rintro E w2 ⟨rfl, rfl⟩
  go_wp2
  go_ret
  exact ⟨rfl, rfl⟩
end Go.Proofs.YtmphigeefppfpaaDoor.H
