/- auto.List: the states of a mask. -/
import Derived.Test.YtmphigeefppfpaaDoorBd
namespace Go.Proofs.YtmphigeefppfpaaDoor.H
open Go.RowKit Go.Proofs.YtmphigeefppfpaaDoorW.PrintWords Go.Proofs.YtmphigeefppfpaaDoorW.PrintLast Go.Proofs.YtmphigeefppfpaaDoorW.PrintMore
set_option linter.unusedVariables false

def bitsL (m : Nat) : List Int := ((List.range 6).filter fun i => m.testBit i).map fun (i : Nat) => (i : Int)
theorem bits_all : ((List.range 64).all fun x => x == 0 || (bitsL x == (low x : Int) :: bitsL (x &&& (x - 1)) && bits BinOp.and IntKind.u64 (x : Int) ((x : Int) - 1) == ((x &&& (x - 1) : Nat) : Int) && decide (x &&& (x - 1) < x))) = true := by kernel_rfl
theorem bits_step {x : Nat} (h0 : x ≠ 0) (h1 : x < 64) : bitsL x = (low x : Int) :: bitsL (x &&& (x - 1)) ∧ bits BinOp.and IntKind.u64 (x : Int) ((x : Int) - 1) = ((x &&& (x - 1) : Nat) : Int) ∧ x &&& (x - 1) < x := by
  have h := List.all_eq_true.1 bits_all x (List.mem_range.2 h1)
  simp only [Bool.or_eq_true, beq_iff_eq, Bool.and_eq_true, decide_eq_true_eq] at h
  have := h.resolve_left h0
  exact ⟨this.1.1, this.1.2, this.2⟩
theorem bitsL_len (m : Nat) : (bitsL m).length ≤ 6 := by
  unfold bitsL
  rw [List.length_map]
  exact Nat.le_trans (List.length_filter_le _ _) (by simp)
theorem u64_id {x : Int} (h0 : 0 ≤ x) (h1 : x < 18446744073709551616) : IntKind.u64.wrap x = x := by simp [IntKind.wrap, IntKind.bits, IntKind.signed]; omega
def ListEnd (m : Nat) (w : World) (E : Ending) (w' : World) : Prop := ∃ (A : Option Addr) (c : Nat), E = .returned (.slice A (bitsL m).length c) ∧ (bitsL m).length ≤ c ∧ Kd.C (Kd.int .i64) w' A (bitsL m).length (bitsL m) ∧ Below w.heap.size w w'
set_option maxHeartbeats 2000000 in
theorem list_calls (m : Nat) (hm : m < 64) (w : World) (h : Tab w) : Calls Tryd.prog 30 #[.int .i64 (m : Int)] w (ListEnd m w) := by
  have HT := Aside0.mk h
  have HM := Aside0.mk hm
  clear h hm
  go_enter Tryd.func30, Tryd.ntmps30
  go_upto_region 3 with (fail)
  rw [u64_id (by omega) (by have := HM.out; omega)]
  go_loopg [3, 4] m (fun gg v3 v4 wi => ∃ (ys : List Int) (x : Nat) (So : Nat → Prop), x ≤ gg ∧ v4 = .int .u64 x ∧ x < 64 ∧ Aside0 (ys ++ bitsL x = bitsL m) ∧ Aside0 (Kd.R (Kd.int .i64) 3 wi w.heap.size So v3 ys) ∧ Aside0 (Below w.heap.size w wi))
  case atStart => exact ⟨[], m, fun _ => False, by omega, rfl, HM.out, ⟨by rw [List.nil_append]⟩, ⟨Kd.R_nil _ _ _ _ _⟩, ⟨Below.refl _ _⟩⟩
  case round =>
    obtain ⟨ys, x, So, hgg, rfl, hx, HE, HR, HB⟩ := hrel
    obtain ⟨A, c, rfl⟩ := Kd.R_slice HR.out
    by_cases h0 : x = 0
    · subst h0
      have hE := HE.out
      rw [show bitsL 0 = [] by rfl, List.append_nil] at hE
      subst hE
      have hr := Kd.R_reads' HR.out
      go_wp2
      go_ret
      exact ⟨A, c, rfl, hr.2.1, hr.2.2, (HB.out)⟩
    · have h0z : ¬ (x : Int) = 0 := by omega
      obtain ⟨e1, e2, e3⟩ := bits_step h0 hx
      have HE1 := Aside0.mk (show (ys ++ [(low x : Int)]) ++ bitsL (x &&& (x - 1)) = bitsL m by rw [List.append_assoc, List.singleton_append, ← e1]; exact HE.out)
      have HL1 := Aside0.mk (show ys.length ≤ 6 by have h1 := congrArg List.length HE.out; rw [List.length_append] at h1; have := bitsL_len m; omega)
      have HZ := Aside0.mk (tz_calls x h0 hx wr ((HT.out).below HB.out))
      have HE2 := Aside0.mk e2
      clear e1 e2 HE h0
      go_wp2_with fail
      refine (HZ.out).mono ?_
      rintro E w2 ⟨rfl, rfl⟩
      go_wp2_with ((with_reducible refine gate_builtin (b := .append) (xs := #[.tmp 13, .tmp 16]) rfl ?_); at_builtin; refine Kd.R_append (Kd.int .i64) (w0 := w) w.heap.size rfl (.tmp 13) (.tmp 16) 25 3 (.int .i64 0) 8 rfl Tryd.underlying25 info3 rfl (by decide) (by omega) (.slice A ys.length c) ys (low x : Int) [.int .i64 (low x : Int)] (fun k => So k ∨ w2.heap.size ≤ k) (fun _ => False) rfl rfl rfl (fun _ hk => hk.elim) (fun k hk => .inr hk) (Kd.R_mono HR.out (fun _ hk => .inl hk)) HB.out (HB.out).size (by have := HL1.out; omega) ?_; intro v5 w5 ho5 hb5 hg5 hat5; have HR5 := Aside0.mk ho5; have HB5 := Aside0.mk hb5; clear ho5 hb5 hg5 hat5)
      go_roundg (x &&& (x - 1))
      case measure => omega
      case rel => exact ⟨ys ++ [(low x : Int)], x &&& (x - 1), _, Nat.le_refl _, by rw [HE2.out], by omega, HE1, HR5, HB5⟩
end Go.Proofs.YtmphigeefppfpaaDoor.H
