/-
  The statement SpecEqualSaid is proved: for every input the law SpecEqual returns true and leaves its arguments as they were. Conditions: none beyond the given row's own.
-/
import Derived.Test.YtmphigeefppfpaaRows
import Derived.Test.YtmphigeefppfpaaHo
import Derived.Test.YtmphigeefppfpaaS21
import Derived.WalkKit
import Derived.ProofKit
import Derived.OpenShut
import Derived.ShutString
import Derived.ChangeOld
import Derived.Below
import Derived.SizedLaws
namespace Go.Proofs.Ytmphigeefppfpaa.specEqual
open Go.ChangeShapes Go.WideShapes Go.ChangeAt Go.RowKit
open Go.Proofs.YtmphigeefppfpaaW.PrintWords
set_option linter.unusedVariables false
theorem own : ownKnob Try.prog.godebug = none := by kernel_rfl
theorem laidOut : laidOutB Try.prog = true := by kernel_rfl
set_option maxRecDepth 100000 in
theorem lifted (os : Os) (started : os.Started) (H : Type) (enc : TypeId × Value → H) :
    ReturnsInHanded {} Try.checked os 12 .any (Rows.specEqualSpec.pre6 enc Try.prog Try.f12 Rows.specEqualRow.domain false) (Rows.specEqualSpec.post enc Try.prog Try.f12 false true false false) := by
  refine returnsInHanded_of_change_sized (C := Try.checked) own started (by kernel_rfl) Try.func12
    (ChangeSpec.witness6 (enc := enc) (C := Try.checked) false ⟨#[], #[.agg #[.int .i64 0, .int .i64 0, .slice none 0 0], .agg #[.int .i64 0, .int .i64 0, .slice none 0 0]], []⟩ 8 (by kernel_rfl) (by kernel_rfl) (by kernel_rfl) (by kernel_rfl)) ?_
  intro W base args ds gs before hval0 hW hcnd hsz0 _
  have hval : ∀ (j : Nat) t v, Try.f12.params[j]? = some t → args[j]? = some v → Value.okWide Try.prog W .any base t v := hval0
  have hW' := hW
  obtain ⟨p, q, hA0, hV, rfl, hfz, hnd⟩ := hW
  have hA : DataW.TrodAll enc Try.prog W 0 (fun _ => true) true Try.f12.params.toList args.toList ds p := hA0
  rw [Try.params12] at hA hval
  obtain ⟨v0, vs0, d0, ds0, p0, q0, hargs, rfl, rfl, h0, r0⟩ := trodAll_cons hA
  obtain ⟨v1, vs1, d1, ds1, p1, q1, rfl, rfl, rfl, h1, r1⟩ := trodAll_cons r0
  obtain ⟨rfl, rfl, rfl⟩ := trodAll_nil r1
  obtain rfl : args = #[v0, v1] := by cases args; simp_all
  obtain ⟨rfl, rfl⟩ := trodVars_none hV
  have k0 := h0
  have lt0 : ∀ x ∈ p0, x.block < W.heap.size := by obtain ⟨m, hm⟩ := k0; exact DataW.trod_lt m _ _ _ hm
  obtain ⟨x0, y0, z0, _, _, _, n0, rfl, _, _, a0, b0, c0⟩ := Go.Joins.open_agg3 Try.underlying24 (by kernel_rfl) (by kernel_rfl) (hval 0 24 v0 rfl rfl) h0
  obtain ⟨ev0, he0, _, we0⟩ := DataW.trod_int Try.underlying3 a0
  obtain ⟨st0, hs0, _, ws0⟩ := DataW.trod_int Try.underlying3 b0
  obtain rfl : x0 = .int .i64 ev0 := by simpa using he0
  obtain rfl : y0 = .int .i64 st0 := by simpa using hs0
  obtain ⟨A0, cc0, l0, rfl, hl0, hC0, hw0⟩ := open_row (d := Kd.slice 3 (Kd.int .i64)) Try.underlying22 (by kernel_rfl) (opens_slice Try.underlying25 (by kernel_rfl) (opens_int Try.underlying3)) c0
  have k1 := h1
  have lt1 : ∀ x ∈ p1, x.block < W.heap.size := by obtain ⟨m, hm⟩ := k1; exact DataW.trod_lt m _ _ _ hm
  obtain ⟨x1, y1, z1, _, _, _, n1, rfl, _, _, a1, b1, c1⟩ := Go.Joins.open_agg3 Try.underlying24 (by kernel_rfl) (by kernel_rfl) (hval 1 24 v1 rfl rfl) h1
  obtain ⟨ev1, he1, _, we1⟩ := DataW.trod_int Try.underlying3 a1
  obtain ⟨st1, hs1, _, ws1⟩ := DataW.trod_int Try.underlying3 b1
  obtain rfl : x1 = .int .i64 ev1 := by simpa using he1
  obtain rfl : y1 = .int .i64 st1 := by simpa using hs1
  obtain ⟨A1, cc1, l1, rfl, hl1, hC1, hw1⟩ := open_row (d := Kd.slice 3 (Kd.int .i64)) Try.underlying22 (by kernel_rfl) (opens_slice Try.underlying25 (by kernel_rfl) (opens_int Try.underlying3)) c1
  clear hA0 hval0 hsz0
  refine (Go.Proofs.Ytmphigeefppfpaa.H.specEqual_calls ev0 st0 A0 cc0 l0 ev1 st1 A1 cc1 l1 W hC0 hl0 hC1 hl1).mono fun e W' ⟨he, bel⟩ => ?_
  subst he
  exact ⟨_, rfl, _, _, _, [], _, [], hW', trodAll_mk1 (shut_bool Try.underlying4 _), (trodAll_cons_mk (Below.trod laidOut (by kernel_rfl) (of_decide_eq_true (by kernel_rfl)) k0 bel lt0) (trodAll_cons_mk (Below.trod laidOut (by kernel_rfl) (of_decide_eq_true (by kernel_rfl)) k1 bel lt1) trodAll_mk0)), rfl, bel.frame _, fun h => by cases h⟩
theorem over : Rows.specEqualRow.holds Try.pinned (OpenSpec.ofChange Rows.specEqualSpec) :=
  OpenClaim.holds_of_wide 12 Try.f12 rfl rfl rfl rfl rfl rfl rfl ⟨rfl, rfl, rfl, rfl, rfl⟩ rfl rfl rfl rfl rfl (by kernel_rfl) Try.func12 (by kernel_rfl)
    (of_decide_eq_true (by kernel_rfl)) (by unfold Func.isWrapper; first | (rw [if_pos (by decide +kernel)]; kernel_rfl) | (rw [if_neg (by decide +kernel)]; exact ⟨rfl, rfl⟩))
    (fun os started H enc _ => lifted os started H enc)
theorem proved : Rows.SpecEqualSaid := over
#print axioms proved
end Go.Proofs.Ytmphigeefppfpaa.specEqual
namespace Go.Proofs.Ytmphigeefppfpaa
/-- The row, under a short name, for the claim. -/
theorem specEqual_holds : Rows.SpecEqualSaid := specEqual.proved
end Go.Proofs.Ytmphigeefppfpaa
