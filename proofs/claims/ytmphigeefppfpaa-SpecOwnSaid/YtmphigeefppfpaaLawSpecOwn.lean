/-
  The statement SpecOwnSaid is proved: for every input the law SpecOwn returns true and leaves its arguments as they were. Conditions: none beyond the given row's own.
-/
import Derived.Test.YtmphigeefppfpaaRows
import Derived.Test.YtmphigeefppfpaaHo
import Derived.Test.YtmphigeefppfpaaS52
import Derived.WalkKit
import Derived.ProofKit
import Derived.OpenShut
import Derived.ShutString
import Derived.ChangeOld
import Derived.Below
import Derived.SizedLaws
namespace Go.Proofs.Ytmphigeefppfpaa.specOwn
open Go.ChangeShapes Go.WideShapes Go.ChangeAt Go.RowKit
open Go.Proofs.YtmphigeefppfpaaW.PrintWords
set_option linter.unusedVariables false
theorem own : ownKnob Try.prog.godebug = none := by kernel_rfl
theorem laidOut : laidOutB Try.prog = true := by kernel_rfl
set_option maxRecDepth 100000 in
theorem lifted (os : Os) (started : os.Started) (H : Type) (enc : TypeId × Value → H) :
    ReturnsInHanded {} Try.checked os 13 .any (Rows.specOwnSpec.pre6 enc Try.prog Try.f13 Rows.specOwnRow.domain false) (Rows.specOwnSpec.post enc Try.prog Try.f13 false true false false) := by
  refine returnsInHanded_of_change_sized (C := Try.checked) own started (by kernel_rfl) Try.func13
    (ChangeSpec.witness6 (enc := enc) (C := Try.checked) false ⟨#[], #[.agg #[.int .i64 0, .int .i64 0, .slice none 0 0], .agg #[.int .i64 0, .int .i64 0, .slice none 0 0], .slice none 0 0, .slice none 0 0], []⟩ 8 (by kernel_rfl) (by kernel_rfl) (by kernel_rfl) (by kernel_rfl)) ?_
  intro W base args ds gs before hval0 hW hcnd hsz0 _
  have hval : ∀ (j : Nat) t v, Try.f13.params[j]? = some t → args[j]? = some v → Value.okWide Try.prog W .any base t v := hval0
  have hW' := hW
  obtain ⟨p, q, hA0, hV, rfl, hfz, hnd⟩ := hW
  have hA : DataW.TrodAll enc Try.prog W 0 (fun _ => true) true Try.f13.params.toList args.toList ds p := hA0
  rw [Try.params13] at hA hval
  obtain ⟨v0, vs0, d0, ds0, p0, q0, hargs, rfl, rfl, h0, r0⟩ := trodAll_cons hA
  obtain ⟨v1, vs1, d1, ds1, p1, q1, rfl, rfl, rfl, h1, r1⟩ := trodAll_cons r0
  obtain ⟨v2, vs2, d2, ds2, p2, q2, rfl, rfl, rfl, h2, r2⟩ := trodAll_cons r1
  obtain ⟨v3, vs3, d3, ds3, p3, q3, rfl, rfl, rfl, h3, r3⟩ := trodAll_cons r2
  obtain ⟨rfl, rfl, rfl⟩ := trodAll_nil r3
  obtain rfl : args = #[v0, v1, v2, v3] := by cases args; simp_all
  obtain ⟨rfl, rfl⟩ := trodVars_none hV
  have k0 := h0
  have lt0 : ∀ x ∈ p0, x.block < W.heap.size := by obtain ⟨m, hm⟩ := k0; exact DataW.trod_lt m _ _ _ hm
  obtain ⟨x0, y0, z0, _, _, _, n0, rfl, _, _, a0, b0, c0⟩ := Go.Joins.open_agg3 Try.underlying24 (by kernel_rfl) (by kernel_rfl) (hval 0 24 v0 rfl rfl) h0
  obtain ⟨ev0, he0, _, we0⟩ := DataW.trod_int Try.underlying3 a0
  obtain ⟨st0, hs0, _, ws0⟩ := DataW.trod_int Try.underlying3 b0
  obtain rfl : x0 = .int .i64 ev0 := by simpa using he0
  obtain rfl : y0 = .int .i64 st0 := by simpa using hs0
  obtain ⟨A0, cc0, l0, rfl, hl0, hC0, hw0⟩ := open_row (d := Kd.slice 3 (Kd.int .i64)) Try.underlying22 (by kernel_rfl) (opens_slice Try.underlying25 (by kernel_rfl) (opens_int Try.underlying3)) c0
  have k1 := h1
  have lt1 : ∀ x ∈ p1, x.block < W.heap.size := by obtain ⟨m, hm⟩ := k1; exact DataW.trod_lt m _ _ _ hm
  obtain ⟨x1, y1, z1, _, _, _, n1, rfl, _, _, a1, b1, c1⟩ := Go.Joins.open_agg3 Try.underlying24 (by kernel_rfl) (by kernel_rfl) (hval 1 24 v1 rfl rfl) h1
  obtain ⟨ev1, he1, _, we1⟩ := DataW.trod_int Try.underlying3 a1
  obtain ⟨st1, hs1, _, ws1⟩ := DataW.trod_int Try.underlying3 b1
  obtain rfl : x1 = .int .i64 ev1 := by simpa using he1
  obtain rfl : y1 = .int .i64 st1 := by simpa using hs1
  obtain ⟨A1, cc1, l1, rfl, hl1, hC1, hw1⟩ := open_row (d := Kd.slice 3 (Kd.int .i64)) Try.underlying22 (by kernel_rfl) (opens_slice Try.underlying25 (by kernel_rfl) (opens_int Try.underlying3)) c1
  have k2 := h2
  have lt2 : ∀ x ∈ p2, x.block < W.heap.size := by obtain ⟨m, hm⟩ := k2; exact DataW.trod_lt m _ _ _ hm
  obtain ⟨A2, len2, cap2, rfl⟩ := okWide_slice Try.underlying25 (hval 2 25 v2 rfl rfl)
  obtain ⟨f2, g2⟩ := h2
  obtain ⟨B2, cc2, l2, e2, hl2, hC2, hw2⟩ := open_row (d := Kd.int .i64) Try.underlying25 (by kernel_rfl) (opens_int Try.underlying3) (by simpa [Value.cells] using g2)
  obtain ⟨rfl, rfl, rfl⟩ : A2 = B2 ∧ len2 = l2.length ∧ cap2 = cc2 := by simpa using e2
  have k3 := h3
  have lt3 : ∀ x ∈ p3, x.block < W.heap.size := by obtain ⟨m, hm⟩ := k3; exact DataW.trod_lt m _ _ _ hm
  obtain ⟨A3, len3, cap3, rfl⟩ := okWide_slice Try.underlying25 (hval 3 25 v3 rfl rfl)
  obtain ⟨f3, g3⟩ := h3
  obtain ⟨B3, cc3, l3, e3, hl3, hC3, hw3⟩ := open_row (d := Kd.int .i64) Try.underlying25 (by kernel_rfl) (opens_int Try.underlying3) (by simpa [Value.cells] using g3)
  obtain ⟨rfl, rfl, rfl⟩ : A3 = B3 ∧ len3 = l3.length ∧ cap3 = cc3 := by simpa using e3
  clear hA0 hval0 hsz0
  refine (Go.Proofs.Ytmphigeefppfpaa.H.specOwn_calls ev0 st0 A0 cc0 l0 ev1 st1 A1 cc1 l1 A2 cap2 l2 A3 cap3 l3 W hC0 hl0 hC1 hl1 hC2 hl2 hC3 hl3).mono fun e W' ⟨he, bel⟩ => ?_
  subst he
  exact ⟨_, rfl, _, _, _, [], _, [], hW', trodAll_mk1 (shut_bool Try.underlying4 _), (trodAll_cons_mk (Below.trod laidOut (by kernel_rfl) (of_decide_eq_true (by kernel_rfl)) k0 bel lt0) (trodAll_cons_mk (Below.trod laidOut (by kernel_rfl) (of_decide_eq_true (by kernel_rfl)) k1 bel lt1) (trodAll_cons_mk (Below.trod laidOut (by kernel_rfl) (of_decide_eq_true (by kernel_rfl)) k2 bel lt2) (trodAll_cons_mk (Below.trod laidOut (by kernel_rfl) (of_decide_eq_true (by kernel_rfl)) k3 bel lt3) trodAll_mk0)))), rfl, bel.frame _, fun h => by cases h⟩
theorem over : Rows.specOwnRow.holds Try.pinned (OpenSpec.ofChange Rows.specOwnSpec) :=
  OpenClaim.holds_of_wide 13 Try.f13 rfl rfl rfl rfl rfl rfl rfl ⟨rfl, rfl, rfl, rfl, rfl⟩ rfl rfl rfl rfl rfl (by kernel_rfl) Try.func13 (by kernel_rfl)
    (of_decide_eq_true (by kernel_rfl)) (by unfold Func.isWrapper; first | (rw [if_pos (by decide +kernel)]; kernel_rfl) | (rw [if_neg (by decide +kernel)]; exact ⟨rfl, rfl⟩))
    (fun os started H enc _ => lifted os started H enc)
theorem proved : Rows.SpecOwnSaid := over
#print axioms proved
end Go.Proofs.Ytmphigeefppfpaa.specOwn
namespace Go.Proofs.Ytmphigeefppfpaa
/-- The row, under a short name, for the claim. -/
theorem specOwn_holds : Rows.SpecOwnSaid := specOwn.proved
end Go.Proofs.Ytmphigeefppfpaa
