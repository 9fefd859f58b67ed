/- spec.reached: the graph of what a specification can reach. -/
import Derived.Test.YtmphigeefppfpaaHc
import Derived.Test.YtmphigeefppfpaaHe
namespace Go.Proofs.Ytmphigeefppfpaa.H
open Go.RowKit Go.Proofs.YtmphigeefppfpaaW.PrintWords Go.Proofs.YtmphigeefppfpaaW.PrintLast Go.Proofs.YtmphigeefppfpaaW.PrintMore
set_option linter.unusedVariables false

/-- The step of a specification. -/
def stepS (l : List (List Int)) (x : Int) (e : Nat) : Int × Bool := (stepAt l x e, decide (stepAt l x e ≥ 0))
def domS (l : List (List Int)) (x : Int) : Prop := 0 ≤ x ∧ x < (l.length : Int)
set_option maxHeartbeats 1000000 in
theorem reached1_calls (x : Int) (e : Nat) (ev st : Int) (A : Option Addr) (c : Nat) (l : List (List Int)) (sb : Nat) (w : World) (hb : w.heap[sb]? = some (.cells #[.int .i64 ev, .int .i64 st, .slice A l.length c] 24 (0, 0))) (hr : Kd.C (Kd.slice 3 (Kd.int .i64)) w A l.length l) (hs : specOk ev st l = true) (hx : domS l x) (he : (e : Int) < ev) :
    Calls Try.prog 65 #[.int .i64 x, .int .i64 e, .pointer (some ⟨sb, 0, none⟩)] w fun E w' => E = .returned (.tuple #[.int .i64 (stepS l x e).1, .bool (stepS l x e).2]) ∧ Below w.heap.size w w' := by
  obtain ⟨hx0, hx1⟩ := hx
  obtain ⟨ad2, A0, c0, e0, hx2, hl0, hr0⟩ := Q.at_L1 hr x hx0 hx1
  cases e0
  have hlen := (specOk_row hs hx0 hx1).1
  obtain ⟨ad3, e0, hx3⟩ := Kd.at_int hr0 (e : Int) (by omega) (by omega)
  cases e0
  rw [Int.toNat_natCast] at hx3
  have hz : w.cell? ⟨sb, 2, none⟩ = some (.slice (some ad2) l.length c) := (blk_cell hb 2).trans rfl
  have hey : (e : Int) < ((Q.rd_L1 l x).length : Int) := by omega
  unfold stepS stepAt
  clear hlen hr hs hb hr0
  generalize Q.rd_L1 l x = y at *
  generalize rd y (e : Int) = r at *
  have hle0 : decide (0 ≤ x) = true := by simpa using hx0
  have hle1 : decide (x < (l.length : Int)) = true := by simpa using hx1
  go_enter Try.func65, Try.ntmps65
  go_wp2
  repeat (go_quiet (fail); try go_wp2)
  go_ret2
  exact ⟨rfl, by repeat (first | exact Below.refl _ _ | apply pw_below_drewN | apply below_drew)⟩

theorem bfs_size {n : Nat} {step : Int → Nat → Int × Bool} {start : Int} {N : Nat} (hstep : ∀ x e, (0 ≤ x ∧ x < (N : Int)) → e < n → (step x e).2 = true → (0 ≤ (step x e).1 ∧ (step x e).1 < (N : Int))) (h0 : 0 ≤ start ∧ start < (N : Int)) (m : Nat) : (bfsTo n step start m).2.length ≤ N := by
  have hD := bfsTo_all (n := n) (D := fun x : Int => 0 ≤ x ∧ x < (N : Int)) hstep h0 m
  have hN := bfsTo_nodup (n := n) (step := step) (start := start) m
  have h2 : ((bfsTo n step start m).2.map Int.toNat).Nodup := by
    refine List.Pairwise.map _ ?_ (List.Pairwise.imp_of_mem (R := fun a b => a ≠ b) (S := fun a b => a.toNat ≠ b.toNat) ?_ hN)
    · exact fun a b h => h
    · intro a b ha hb hne he
      have := hD a ha; have := hD b hb
      exact hne (by omega)
  have h3 := h2.length_le_of_subset (l₂ := List.range N) (fun x hx => by
    obtain ⟨a, ha, rfl⟩ := List.mem_map.1 hx
    have := hD a ha
    exact List.mem_range.2 (by omega))
  simpa using h3
theorem bfs_size' {n : Nat} {step : Int → Nat → Int × Bool} {start : Int} {N : Nat} {D : Int → Prop} (hDN : ∀ x, D x → 0 ≤ x ∧ x < (N : Int)) (hstep : ∀ x e, D x → e < n → (step x e).2 = true → D (step x e).1) (h0 : D start) (m : Nat) : (bfsTo n step start m).2.length ≤ N := by
  have hD := bfsTo_all (n := n) hstep h0 m
  have hN := bfsTo_nodup (n := n) (step := step) (start := start) m
  have h2 : ((bfsTo n step start m).2.map Int.toNat).Nodup := by
    refine List.Pairwise.map _ ?_ (List.Pairwise.imp_of_mem (R := fun a b => a ≠ b) (S := fun a b => a.toNat ≠ b.toNat) ?_ hN)
    · exact fun a b h => h
    · intro a b ha hb hne he
      have := hDN a (hD a ha); have := hDN b (hD b hb)
      exact hne (by omega)
  have h3 := h2.length_le_of_subset (l₂ := List.range N) (fun x hx => by
    obtain ⟨a, ha, rfl⟩ := List.mem_map.1 hx
    have := hDN a (hD a ha)
    exact List.mem_range.2 (by omega))
  simpa using h3
theorem stepS_dom {ev st : Int} {l : List (List Int)} (hs : specOk ev st l = true) : ∀ x e, domS l x → e < ev.toNat → (stepS l x e).2 = true → domS l (stepS l x e).1 := by
  intro x e hx he h
  have := stepAt_range hs (q := x) (x := (e : Int)) hx.1 hx.2 (by omega) (by have := headOk_true (specOk_head hs); omega)
  simp only [stepS, decide_eq_true_eq] at h ⊢
  exact ⟨h, this.2⟩
/-- The graph of a specification, breadth first, and its states. -/
def reachB (ev st : Int) (l : List (List Int)) : List (List Int) × List Int := bfsTo ev.toNat (stepS l) st l.length
def ReachEnd (ev st : Int) (l : List (List Int)) (w : World) (E : Ending) (w' : World) : Prop := ∃ (ov : Value) (So : Nat → Prop), E = .returned ov ∧ Kd.R (Kd.slice 3 (Kd.int .i64)) 25 w' w.heap.size So ov (reachB ev st l).1 ∧ Below w.heap.size w w'
theorem wf_small {x : Int} (h0 : 0 ≤ x) (h1 : x < 9223372036854775808) : wf64 x := by
  simp [wf64, Lit.wf, IntKind.min, IntKind.max, IntKind.signed, IntKind.bits]; omega
set_option maxHeartbeats 1000000 in
theorem reached_calls (ev st : Int) (A : Option Addr) (c : Nat) (l : List (List Int)) (w : World) (hr : Kd.C (Kd.slice 3 (Kd.int .i64)) w A l.length l) (hs : specOk ev st l = true) :
    Calls Try.prog 49 #[.agg #[.int .i64 ev, .int .i64 st, .slice A l.length c]] w (ReachEnd ev st l w) := by
  have hmf := run_mkfun
  have hh := headOk_true (specOk_head hs)
  obtain ⟨n, hn⟩ : ∃ n : Nat, ev = (n : Int) := ⟨ev.toNat, by omega⟩
  have HW0 := Aside0.mk (below_alloc (Below.refl w.heap.size w) (.cells #[.int .i64 ev, .int .i64 st, .slice A l.length c] 24))
  have HX := Aside0.mk (blk_new w (.cells #[.int .i64 ev, .int .i64 st, .slice A l.length c] 24))
  have HC := Aside0.mk (explored_calls n st 65 #[.pointer (some ⟨w.heap.size, 0, none⟩)] (domS l) (stepS l) l.length (w.alloc (.cells #[.int .i64 ev, .int .i64 st, .slice A l.length c] 24)) (by omega) (by omega)
    (bfs_size (fun x e hx he h => stepS_dom hs x e hx (by omega) h) ⟨by omega, by omega⟩ _)
    (fun W x e hW hx he => reached1_calls x e ev st A c l w.heap.size W (blk_below HX.out hW) (Kd.C_below hr (below_then HW0.out (HW0.out).size hW)) hs hx (by omega))
    ⟨by omega, by omega⟩ (fun x e hx he h => stepS_dom hs x e hx (by omega) h) (fun x hx => wf_small hx.1 (by have := hx.2; omega)) (fun _ _ => rfl))
  have HN := Aside0.mk hn
  clear hr hs hh hn
  unfold ReachEnd reachB
  obtain rfl := HN.out
  go_enter Try.func49, Try.ntmps49
  go_wp2_with fail
  refine HC.out.mono ?_
  rintro E w2 ⟨ov, qv, So, Sq, rfl, _, ho, _, hb⟩
  have HO := Aside0.mk ho
  have HB := Aside0.mk (below_then HW0.out (HW0.out).size hb)
  have HL := Aside0.mk (HW0.out).size
  clear ho hb HC HX HN
  go_wp2
  go_ret
  exact ⟨_, So, rfl, Kd.R_lower HO.out HL.out, HB.out⟩
end Go.Proofs.Ytmphigeefppfpaa.H
