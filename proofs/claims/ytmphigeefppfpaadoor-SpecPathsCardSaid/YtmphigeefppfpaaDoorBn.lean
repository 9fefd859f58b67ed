/-
  The statement SpecPathsCardSaid is proved: for every input the law SpecPaths returns true and leaves its arguments as they were. Conditions: none beyond the given card's own.
-/
import Derived.Test.YtmphigeefppfpaaDoorRows
import Derived.Test.YtmphigeefppfpaaDoorCards
import Derived.Test.YtmphigeefppfpaaDoorTie
import Derived.Test.YtmphigeefppfpaaDoorHo
import Derived.Test.YtmphigeefppfpaaDoorBm
import Derived.WalkKit
import Derived.ProofKit
import Derived.OpenShut
import Derived.ShutString
import Derived.ChangeOld
import Derived.Below
import Derived.SizedLaws
import Derived.LaidMore
import Derived.Stop.Joined
import Derived.SevenTiedAt
namespace Go.Proofs.YtmphigeefppfpaaDoor.specPaths
open Go.ChangeShapes Go.WideShapes Go.ChangeAt Go.WideMaps Go.WideElems Go.RowKit Go.Deep
open Go.Proofs.YtmphigeefppfpaaDoorW.PrintWords Go.Proofs.YtmphigeefppfpaaDoor.PSpecPaths
open Go.Proofs.YtmphigeefppfpaaDoor.H (Tab)
set_option linter.unusedVariables false

/-- A slice of trees, given how each of its trees reads. -/
theorem open_kids {H : Type} {enc : TypeId × Value → H} {w : World} {base fuel : Nat} {held : Bool} {cs : List Value} {x : DataW H × List MemPlace} (h : DataW.trod enc Tryd.prog w base (fun _ => true) held fuel 26 cs = some x)
    (each : ∀ (fuel : Nat) (cs : List Value) (y : DataW H × List MemPlace), SizeOf.sizeOf y.1 < SizeOf.sizeOf x.1 → DataW.trod enc Tryd.prog w base (fun _ => true) held fuel 28 cs = some y → ∃ t : S28, k28.K w t cs) :
    ∃ (A : Option Addr) (c : Nat) (l : List S28), cs = [.slice A l.length c] ∧ l.length ≤ c ∧ k28.C w A l.length l := by
  rcases open_slice Tryd.underlying26 h with ⟨rfl, _⟩ | ⟨a, len, cap, m, n, D, Pl, rfl, _, hl, hm, hmm, hxe, hx⟩
  · exact ⟨none, 0, [], rfl, Nat.le_refl _, rfl, by simp, fun h0 => absurd h0 (by simp)⟩
  · have hmm' : m = cap := by simpa using hmm
    have hel : ∀ i, i < len → ∃ t : S28, ∃ cs', w.cells? base (a.add (i * Tryd.prog.cellsOf 28)) (Tryd.prog.cellsOf 28) = some cs' ∧ k28.K w t cs' := by
      intro i hi
      obtain ⟨cs', h1, h2⟩ := hx i (by omega)
      have hlt : SizeOf.sizeOf (D i) < SizeOf.sizeOf x.1 := by
        rw [hxe]
        have hmem : D i ∈ (List.range len).map D := List.mem_map.2 ⟨i, List.mem_range.2 hi, rfl⟩
        have := List.sizeOf_lt_of_mem hmem
        simp only [DataW.slice.sizeOf_spec]
        omega
      obtain ⟨t, ht⟩ := each n cs' _ hlt h2
      exact ⟨t, cs', h1, ht⟩
    obtain ⟨xs, hxl, hxs⟩ := choose_list hel
    have c28 : Tryd.prog.cellsOf 28 = 2 := by kernel_rfl
    refine ⟨some a, cap, xs, by rw [hxl], by omega, rfl, ?_, fun _ => ⟨a, rfl, fun j p hj => ?_⟩⟩
    · have : maxLen = 9223372036854775807 := rfl
      omega
    · obtain ⟨cs', h1, h2⟩ := hxs j p hj
      obtain ⟨_, hlen, hcell⟩ := World.cells?_some h1
      refine ⟨cs', k28.K_len h2, h2, fun i u hu => ?_⟩
      have hi : i < cs'.length := (List.getElem?_eq_some_iff.1 hu).1
      have h3 := hcell i (by omega)
      rw [Go.Deep.add_add, c28] at h3
      rw [show k28.sz = 2 from rfl, h3]; exact hu
theorem open_tree {H : Type} {enc : TypeId × Value → H} {w : World} {base : Nat} {held : Bool} (N : Nat) : ∀ (fuel : Nat) (cs : List Value) (x : DataW H × List MemPlace), SizeOf.sizeOf x.1 ≤ N → DataW.trod enc Tryd.prog w base (fun _ => true) held fuel 28 cs = some x → ∃ t : S28, k28.K w t cs := by
  induction N with
  | zero =>
    intro fuel cs x hN
    have : 0 < SizeOf.sizeOf x.1 := by cases x.1 <;> simp <;> omega
    omega
  | succ N ih =>
    intro fuel cs x hN h
    obtain ⟨y0, y1, n, rfl, hl, h0, h1⟩ := trod_struct2 Tryd.underlying28 h
    have o0 : (Tryd.prog.cellsOf 3) = 1 := by kernel_rfl
    have o1 : (Tryd.prog.cellsOf 26) = 1 := by kernel_rfl
    have o2 : (Tryd.prog.cellsOf 28) = 2 := by kernel_rfl
    rw [o2] at hl
    match cs, hl with
    | [c0, c1], _ =>
      simp only [o0, o1] at h0 h1
      obtain ⟨s, e0, _, _⟩ := DataW.trod_int Tryd.underlying3 h0
      obtain ⟨A, c, l, e1, hlc, hC⟩ := open_kids h1 (fun fuel cs y hy hh => ih fuel cs y (by simp only [DataW.agg.sizeOf_spec, List.cons.sizeOf_spec, List.nil.sizeOf_spec] at hN; omega) hh)
      obtain rfl : c0 = .int .i64 s := by simpa using e0
      obtain rfl : c1 = .slice A l.length c := by simpa using e1
      exact ⟨⟨s, l⟩, k28_mk w ⟨s, l⟩ hlc hC⟩

theorem own : ownKnob Tryd.prog.godebug = none := by kernel_rfl
theorem laidOut : laidOutB Tryd.prog = true := by kernel_rfl
theorem g32 : Tryd.prog.globalNamed "math/bits.deBruijn32tab" = some 0 := by kernel_rfl
theorem g64 : Tryd.prog.globalNamed "math/bits.deBruijn64tab" = some 1 := by kernel_rfl
theorem t64 : (Tryd.prog.globals[1]?).map (·.type) = some 95 := by kernel_rfl
abbrev laid2 : List (String × DataW Unit) := [("math/bits.deBruijn32tab", Rows.laid_math_bits_deBruijn32tab), ("math/bits.deBruijn64tab", Rows.laid_math_bits_deBruijn64tab)]
theorem door_met (os : Os) (args : Array Value) : laidMetH Tryd.prog laid2 ((World.doorLaid Tryd.prog 400 os).forCall (fun _ _ => 0) ⟨#[], args, []⟩).memory :=
  laidMetH_of_parts3 (fuel := 8) (laidMet_of_run' 8 (by kernel_rfl) (by kernel_rfl)) (by kernel_rfl) (by kernel_rfl)
/-- What the table's datum says of its places. -/
theorem of_laid {W : World} (h : laidMetH Tryd.prog laid2 W) : Tab W := by
  rw [MakeChecks.laidMetH_plain _ _ _ (by kernel_rfl)] at h
  obtain ⟨ps, ⟨g0, t0, cs0, f0, p0, q0, hg0, ht0, hv0, hd0, ⟨g1, t1, cs1, f1, p1, q1, hg1, ht1, hv1, hd1, _, _⟩, _⟩, _, _⟩ := h
  obtain rfl := Option.some.inj (g64.symm.trans hg1)
  obtain rfl := Option.some.inj (t64.symm.trans ht1)
  obtain ⟨xs, m1, rfl, hx1, hlen, hn, hel⟩ := DataW.trod_array Tryd.underlying95 hd1
  have c5 : Tryd.prog.cellsOf 5 = 1 := by kernel_rfl
  simp only [Prod.mk.injEq] at hx1
  have hxe := hx1.1
  have at_ : ∀ (i : Nat) (k : Int), i < 64 → (xs.map (·.1))[i]? = some (.lit (.int .u8 k)) → W.cell? ⟨1, i, none⟩ = some (.int .u8 k) := by
    intro i k hi hk
    have h1 := hel i hi
    rw [c5, Nat.mul_one] at h1
    rw [List.getElem?_map] at hk
    cases hxi : xs[i]? with
    | none => rw [hxi] at hk; cases hk
    | some x =>
      rw [hxi] at hk h1
      obtain ⟨n, e1, e2, _⟩ := DataW.trod_int Tryd.underlying5 h1
      have hk2 : x.1 = .lit (.int .u8 k) := by simpa using hk
      rw [e2] at hk2
      have hnk : n = k := by simpa using hk2
      subst hnk
      have hc := World.var?_cell hg1 hv1 i
      rw [hc, ← Array.getElem?_toList]
      have := congrArg (·[0]?) e1
      simpa [List.getElem?_take, List.getElem?_drop] using this
  have hlit : ∀ (i : Nat) (k : Int), (match (Rows.laid_math_bits_deBruijn64tab : DataW Unit) with | .agg ps => ps[i]? | _ => none) = some (.lit (.int .u8 k)) → (xs.map (·.1))[i]? = some (.lit (.int .u8 k)) := by
    intro i k hk
    first | (rw [hxe] at hk; exact hk) | (rw [← hxe] at hk; exact hk)
  exact ⟨at_ 0 0 (by decide) (hlit 0 0 rfl), at_ 1 1 (by decide) (hlit 1 1 rfl), at_ 3 2 (by decide) (hlit 3 2 rfl), at_ 7 3 (by decide) (hlit 7 3 rfl), at_ 15 4 (by decide) (hlit 15 4 rfl), at_ 31 5 (by decide) (hlit 31 5 rfl)⟩

set_option maxRecDepth 100000 in
theorem lifted (os : Os) (started : os.Started) (H : Type) (enc : TypeId × Value → H) :
    ReturnsInHanded {} Tryd.checked os 3 .any (fun w args => (Rows.specPathsSpec.pre enc Tryd.prog Tryd.f3 Rows.specPathsRow.domain false w args ∧ laidMetH Tryd.prog laid2 w) ∧ sizedMet enc Tryd.prog Tryd.f3 (OpenSpec.ofChange Rows.specPathsSpec) false w args)
      (Rows.specPathsSpec.post enc Tryd.prog Tryd.f3 false true false false) := by
  refine returnsInHanded_of_change_and (C := Tryd.checked) (X := fun w _ => laidMetH Tryd.prog laid2 w) (fun _ _ _ hh h => h.of_heap hh) own started (by kernel_rfl) Tryd.func3
    (ChangeSpec.witness_shaped (enc := enc) (C := Tryd.checked) (os := os) (X := fun w _ => laidMetH Tryd.prog laid2 w) false (World.doorLaid Tryd.prog 400 os) #[.agg #[.int .i64 0, .int .i64 0, .slice none 0 0], .slice none 0 0, .slice none 0 0, .agg #[.int .i64 0, .slice none 0 0]] 8 rfl (World.shaped_of_RefB (by kernel_rfl) (by kernel_rfl)) (by kernel_rfl) (by kernel_rfl) (by kernel_rfl) (door_met os _)) ?_
  intro W base args ds gs before hval0 hW hcnd hsz0 hL _
  have hval : ∀ (j : Nat) t v, Tryd.f3.params[j]? = some t → args[j]? = some v → Value.okWide Tryd.prog W .any base t v := hval0
  have hW' := hW
  obtain ⟨p, q, hA0, hV, rfl, hfz, hnd⟩ := hW
  have hA : DataW.TrodAll enc Tryd.prog W 0 (fun _ => true) true Tryd.f3.params.toList args.toList ds p := hA0
  rw [Tryd.params3] at hA hval
  obtain ⟨v0, vs0, d0, ds0, p0, q0, hargs, rfl, rfl, h0, r0⟩ := trodAll_cons hA
  obtain ⟨v1, vs1, d1, ds1, p1, q1, rfl, rfl, rfl, h1, r1⟩ := trodAll_cons r0
  obtain ⟨v2, vs2, d2, ds2, p2, q2, rfl, rfl, rfl, h2, r2⟩ := trodAll_cons r1
  obtain ⟨v3, vs3, d3, ds3, p3, q3, rfl, rfl, rfl, h3, r3⟩ := trodAll_cons r2
  obtain ⟨rfl, rfl, rfl⟩ := trodAll_nil r3
  obtain rfl : args = #[v0, v1, v2, v3] := by cases args; simp_all
  obtain ⟨rfl, rfl⟩ := trodVars_none hV
  have k0 := h0
  have lt0 : ∀ x ∈ p0, x.block < W.heap.size := by obtain ⟨m, hm⟩ := k0; exact DataW.trod_lt m _ _ _ hm
  obtain ⟨x0, y0, z0, _, _, _, n0, rfl, _, _, a0, b0, c0⟩ := Go.Joins.open_agg3 Tryd.underlying24 (by kernel_rfl) (by kernel_rfl) (hval 0 24 v0 rfl rfl) h0
  obtain ⟨ev0, he0, _, we0⟩ := DataW.trod_int Tryd.underlying3 a0
  obtain ⟨st0, hs0, _, ws0⟩ := DataW.trod_int Tryd.underlying3 b0
  obtain rfl : x0 = .int .i64 ev0 := by simpa using he0
  obtain rfl : y0 = .int .i64 st0 := by simpa using hs0
  obtain ⟨A0, cc0, l0, rfl, hl0, hC0, hw0⟩ := Go.Proofs.YtmphigeefppfpaaDoorW.PrintWords.open_row (d := Kd.slice 3 (Kd.int .i64)) Tryd.underlying22 (by kernel_rfl) (opens_slice Tryd.underlying25 (by kernel_rfl) (opens_int Tryd.underlying3)) c0
  have k1 := h1
  have lt1 : ∀ x ∈ p1, x.block < W.heap.size := by obtain ⟨m, hm⟩ := k1; exact DataW.trod_lt m _ _ _ hm
  obtain ⟨A1, len1, cap1, rfl⟩ := okWide_slice Tryd.underlying25 (hval 1 25 v1 rfl rfl)
  obtain ⟨f1, g1⟩ := h1
  obtain ⟨B1, cc1, l1, e1, hl1, hC1, hw1⟩ := Go.Proofs.YtmphigeefppfpaaDoorW.PrintWords.open_row (d := Kd.int .i64) Tryd.underlying25 (by kernel_rfl) (opens_int Tryd.underlying3) (by simpa [Value.cells] using g1)
  obtain ⟨rfl, rfl, rfl⟩ : A1 = B1 ∧ len1 = l1.length ∧ cap1 = cc1 := by simpa using e1
  have k2 := h2
  have lt2 : ∀ x ∈ p2, x.block < W.heap.size := by obtain ⟨m, hm⟩ := k2; exact DataW.trod_lt m _ _ _ hm
  obtain ⟨A2, len2, cap2, rfl⟩ := okWide_slice Tryd.underlying25 (hval 2 25 v2 rfl rfl)
  obtain ⟨f2, g2⟩ := h2
  obtain ⟨B2, cc2, l2, e2, hl2, hC2, hw2⟩ := Go.Proofs.YtmphigeefppfpaaDoorW.PrintWords.open_row (d := Kd.int .i64) Tryd.underlying25 (by kernel_rfl) (opens_int Tryd.underlying3) (by simpa [Value.cells] using g2)
  obtain ⟨rfl, rfl, rfl⟩ : A2 = B2 ∧ len2 = l2.length ∧ cap2 = cc2 := by simpa using e2
  have k3 := h3
  have lt3 : ∀ x ∈ p3, x.block < W.heap.size := by obtain ⟨m, hm⟩ := k3; exact DataW.trod_lt m _ _ _ hm
  obtain ⟨x3, y3, _, _, n3, rfl, _, _, a3, b3⟩ := Go.Joins.open_agg2 Tryd.underlying28 (by kernel_rfl) (by kernel_rfl) (hval 3 28 v3 rfl rfl) h3
  obtain ⟨s3, he3, _, we3⟩ := DataW.trod_int Tryd.underlying3 a3
  obtain rfl : x3 = .int .i64 s3 := by simpa using he3
  obtain ⟨A3, cc3, l3, hy3, hl3, hC3⟩ := open_kids b3 (fun fuel cs y hy hh => open_tree _ fuel cs y (Nat.le_refl _) hh)
  obtain rfl : y3 = .slice A3 l3.length cc3 := by simpa using hy3
  clear hA0 hval0 hsz0
  refine (Go.Proofs.YtmphigeefppfpaaDoor.H.specPaths_calls ev0 st0 A0 cc0 l0 A1 cap1 l1 A2 cap2 l2 ⟨s3, l3⟩ A3 cc3 W hC0 hl0 hC1 hl1 hC2 hl2 hC3 hl3 (of_laid hL)).mono fun e W' ⟨he, bel⟩ => ?_
  subst he
  exact ⟨_, rfl, _, _, _, [], _, [], hW', trodAll_mk1 (shut_bool Tryd.underlying4 _), (trodAll_cons_mk (Below.trod laidOut (by kernel_rfl) (of_decide_eq_true (by kernel_rfl)) k0 bel lt0) (trodAll_cons_mk (Below.trod laidOut (by kernel_rfl) (of_decide_eq_true (by kernel_rfl)) k1 bel lt1) (trodAll_cons_mk (Below.trod laidOut (by kernel_rfl) (of_decide_eq_true (by kernel_rfl)) k2 bel lt2) (trodAll_cons_mk (Below.trod laidOut (by kernel_rfl) (of_decide_eq_true (by kernel_rfl)) k3 bel lt3) trodAll_mk0)))), rfl, bel.frame _, fun h => by cases h⟩
theorem over : Rows.SpecPathsSaid :=
  OpenClaim.holds_of_wide 3 Tryd.f3 rfl rfl rfl rfl rfl rfl rfl ⟨rfl, rfl, rfl, rfl, rfl⟩ rfl rfl rfl rfl rfl (by kernel_rfl) Tryd.func3 (by kernel_rfl)
    (of_decide_eq_true (by kernel_rfl)) (by unfold Func.isWrapper; first | (rw [if_pos (by decide +kernel)]; kernel_rfl) | (rw [if_neg (by decide +kernel)]; exact ⟨rfl, rfl⟩))
    (fun os started H enc _ => lifted os started H enc)
theorem card : Rows.SpecPathsCardSaid :=
  Claim7.holds_tied_plain_at .later [] [.data, .data] true (true, "28e9fcc7875f42805aac93071d87648d0021741160cc8030a669304dd1d680e6") false
    over (fun _ h => by cases h) (by kernel_rfl) (fun _ h => by cases h) specPaths_row_tie rfl ⟨rfl, rfl⟩ (by kernel_rfl) rfl
    (fun f fn hf hfn => by
      obtain rfl : f = 3 := Option.some.inj ((show Tryd.prog.funcNamed "virgation/virgationlaw11.SpecPaths" = some 3 by kernel_rfl).symm.trans hf) |>.symm
      obtain rfl : fn = Tryd.f3 := (Option.some.inj (Tryd.func3.symm.trans hfn)).symm
      exact ⟨by kernel_rfl, fun j t ht => by
        rw [Tryd.params3] at ht
        have hm : t ∈ [24, 25, 25, 28] := by simpa using Array.mem_of_getElem? ht
        have hall : ([24, 25, 25, 28].all fun u => !Tryd.prog.wantsStandIn u) = true := by kernel_rfl
        exact (show Tryd.prog.wantsStandIn t = false by simpa using List.all_eq_true.1 hall t hm)⟩)
    (by kernel_rfl)
#print axioms card
end Go.Proofs.YtmphigeefppfpaaDoor.specPaths
namespace Go.Proofs.YtmphigeefppfpaaDoor
/-- The card, under a short name, for the claim. -/
theorem specPaths_holds : Rows.SpecPathsCardSaid := specPaths.card
end Go.Proofs.YtmphigeefppfpaaDoor
