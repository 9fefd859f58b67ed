/- Several texts in one: Ig, Ih, Ii, Ij, Ik. -/
import Derived.Test.YtmphigeefppfpaaIf
import Derived.Test.YtmphigeefppfpaaId
/- spec.pair, spec.product, Both, Any. -/
namespace Go.Proofs.Ytmphigeefppfpaa.H
open Go.RowKit Go.Proofs.YtmphigeefppfpaaW.PrintWords Go.Proofs.YtmphigeefppfpaaW.PrintLast Go.Proofs.YtmphigeefppfpaaW.PrintMore
set_option linter.unusedVariables false

/-! ### tables of any states -/
section
variable {α : Type} [DecidableEq α] {n N : Nat} {step : α → Nat → α × Bool} {start : α}
theorem table_lq' (h : (bfsTo n step start N).2.length ≤ N) {i : Nat} {x : α} (hx : (bfsTo n step start N).2[i]? = some x) : Lq n (stepS (bfsTo n step start N).1) step (i : Int) x := by
  obtain ⟨hl, _, hrow⟩ := bfs_done h
  refine Lq.of_rel (fun a x => ∃ i : Nat, a = (i : Int) ∧ (bfsTo n step start N).2[i]? = some x) ?_ ⟨i, rfl, hx⟩
  rintro a x e ⟨i, rfl, hi⟩ he
  obtain ⟨h1, h2⟩ := hrow i x hi
  have h3 := h2 e he
  have h4 : (stepS (bfsTo n step start N).1 (i : Int) e) = (((bfsTo n step start N).1.getD i []).getD e 0, decide (((bfsTo n step start N).1.getD i []).getD e 0 ≥ 0)) := by
    simp [stepS, stepAt, rd, Q.rd_L1]
  rw [h4]
  unfold Right at h3
  by_cases ho : (step x e).2 = true
  · rw [if_pos ho] at h3
    refine ⟨by rw [h3.2, ho]; simp, fun _ => ⟨place (step x e).1 (bfsTo n step start N).2, h3.2, ?_⟩⟩
    rw [List.getElem?_eq_getElem (place_mem.1 h3.1)]
    congr 1
    exact List.getElem_idxOf (place_mem.1 h3.1)
  · rw [if_neg ho] at h3
    have ho' : (step x e).2 = false := by simpa using ho
    refine ⟨by rw [h3, ho']; decide, fun h => ?_⟩
    rw [h3] at h
    simp at h
theorem table_ok' (h : (bfsTo n step start N).2.length ≤ N) : graphOk n (bfsTo n step start N).1 ∧ 1 ≤ (bfsTo n step start N).1.length ∧ (bfsTo n step start N).1.length ≤ N := by
  obtain ⟨hl, ⟨r, hr⟩, hrow⟩ := bfs_done h
  refine ⟨fun row hm => ?_, by rw [hl, hr]; simp, by omega⟩
  obtain ⟨i, hi, rfl⟩ := List.getElem_of_mem hm
  have hi2 : i < (bfsTo n step start N).2.length := by omega
  obtain ⟨h1, h2⟩ := hrow i _ (List.getElem?_eq_getElem hi2)
  rw [List.getD_eq_getElem?_getD, List.getElem?_eq_getElem hi] at h1 h2
  simp only [Option.getD_some] at h1 h2
  refine ⟨h1, fun v hv => ?_⟩
  obtain ⟨e, he, rfl⟩ := List.getElem_of_mem hv
  have h3 := h2 e (by omega)
  rw [List.getD_eq_getElem?_getD, List.getElem?_eq_getElem he] at h3
  simp only [Option.getD_some] at h3
  unfold Right at h3
  split at h3
  · have := place_mem.1 h3.1
    omega
  · omega
end

/-! ### pairs of states -/
def stepQ (la lb : List (List Int)) (may : Int → Int → Bool) (x : Int × Int) (e : Nat) : (Int × Int) × Bool := ((nextB la x.1 e, nextB lb x.2 e), may (nextB la x.1 e) (nextB lb x.2 e))
def pairs (la lb : List (List Int)) : Nat := (la.length + 1) * (lb.length + 1)
def domQ (la lb : List (List Int)) (x : Int × Int) : Prop := domN la x.1 ∧ domN lb x.2
theorem code_lt {a b u v : Nat} (ha : a < u) (hb : b < v) : a * v + b < u * v := by
  calc a * v + b < a * v + v := by omega
    _ = (a + 1) * v := by rw [Nat.add_mul, Nat.one_mul]
    _ ≤ u * v := Nat.mul_le_mul_right _ ha
theorem code_inj {a b a' b' v : Nat} (hb : b < v) (hb' : b' < v) (h : a * v + b = a' * v + b') : a = a' ∧ b = b' := by
  have h1 : (a * v + b) / v = a := by rw [Nat.mul_comm, Nat.mul_add_div (by omega), Nat.div_eq_of_lt hb, Nat.add_zero]
  have h2 : (a' * v + b') / v = a' := by rw [Nat.mul_comm, Nat.mul_add_div (by omega), Nat.div_eq_of_lt hb', Nat.add_zero]
  have h3 : a = a' := by rw [← h1, ← h2, h]
  subst h3
  exact ⟨rfl, by omega⟩
theorem bfs_pairs {n : Nat} {la lb : List (List Int)} {step : Int × Int → Nat → (Int × Int) × Bool} {start : Int × Int} (hstep : ∀ x e, domQ la lb x → e < n → (step x e).2 = true → domQ la lb (step x e).1) (h0 : domQ la lb start) (m : Nat) : (bfsTo n step start m).2.length ≤ pairs la lb := by
  have hD := bfsTo_all (n := n) hstep h0 m
  have hN := bfsTo_nodup (n := n) (step := step) (start := start) m
  let f : Int × Int → Nat := fun x => (x.1 + 1).toNat * (lb.length + 1) + (x.2 + 1).toNat
  have h2 : ((bfsTo n step start m).2.map f).Nodup := by
    refine List.Pairwise.map _ ?_ (List.Pairwise.imp_of_mem (R := fun a b => a ≠ b) (S := fun a b => f a ≠ f b) ?_ hN)
    · exact fun a b h => h
    · intro a b ha hb hne he
      obtain ⟨⟨a1, a2⟩, a3, a4⟩ := hD a ha
      obtain ⟨⟨b1, b2⟩, b3, b4⟩ := hD b hb
      obtain ⟨e1, e2⟩ := code_inj (by omega) (by omega) he
      exact hne (Prod.ext (by omega) (by omega))
  have h3 := h2.length_le_of_subset (l₂ := List.range (pairs la lb)) (fun x hx => by
    obtain ⟨a, ha, rfl⟩ := List.mem_map.1 hx
    obtain ⟨⟨a1, a2⟩, a3, a4⟩ := hD a ha
    exact List.mem_range.2 (code_lt (by omega) (by omega)))
  simpa using h3
theorem stepQ_dom {ev sa sb : Int} {la lb : List (List Int)} {may : Int → Int → Bool} (ha : specOk ev sa la = true) (hb : specOk ev sb lb = true) (x : Int × Int) (e : Nat) (hx : domQ la lb x) (he : e < ev.toNat) (_ : (stepQ la lb may x e).2 = true) : domQ la lb (stepQ la lb may x e).1 :=
  ⟨nextB_dom ha hx.1 (by omega) (by omega), nextB_dom hb hx.2 (by omega) (by omega)⟩
def prodB (ev sa sb : Int) (la lb : List (List Int)) (may : Int → Int → Bool) : List (List Int) × List (Int × Int) := bfsTo ev.toNat (stepQ la lb may) (sa, sb) (pairs la lb)
theorem spec_domN {ev st : Int} {l : List (List Int)} (h : specOk ev st l = true) : domN l st := by
  have := (spec_table h).2.1
  exact ⟨by have := this.1; omega, this.2⟩
theorem prod_fin {ev sa sb : Int} {la lb : List (List Int)} {may : Int → Int → Bool} (ha : specOk ev sa la = true) (hb : specOk ev sb lb = true) (m : Nat) : (bfsTo ev.toNat (stepQ la lb may) (sa, sb) m).2.length ≤ pairs la lb :=
  bfs_pairs (stepQ_dom ha hb) ⟨spec_domN ha, spec_domN hb⟩ m
theorem pairs_le {ev sa sb : Int} {la lb : List (List Int)} (ha : specOk ev sa la = true) (hb : specOk ev sb lb = true) : pairs la lb ≤ 4225 := by
  have h1 := (spec_table ha).2.2.2.2.2
  have h2 := (spec_table hb).2.2.2.2.2
  exact Nat.le_trans (Nat.mul_le_mul (Nat.succ_le_succ h1) (Nat.succ_le_succ h2)) (by decide)
noncomputable def prodRows (ev sa sb : Int) (la lb : List (List Int)) (may : Int → Int → Bool) : List (List Int) := rleastOf ev.toNat (prodB ev sa sb la lb may).1 0
/-! ### the answers -/
def pairVal (ea sa : Int) (la : List (List Int)) (eb sb : Int) (lb : List (List Int)) : Int := if specOk ea sa la then (if specOk eb sb lb then (if ea = eb then 0 else 2) else 11) else 11
noncomputable def pErr (may : Int → Int → Bool) (ea sa : Int) (la : List (List Int)) (eb sb : Int) (lb : List (List Int)) : Int := if pairVal ea sa la eb sb lb = 0 then (if 64 < (prodRows ea sa sb la lb may).length then 3 else 0) else pairVal ea sa la eb sb lb
noncomputable def pEv (may : Int → Int → Bool) (ea sa : Int) (la : List (List Int)) (eb sb : Int) (lb : List (List Int)) : Int := if pErr may ea sa la eb sb lb = 0 then ea else 0
noncomputable def pRows (may : Int → Int → Bool) (ea sa : Int) (la : List (List Int)) (eb sb : Int) (lb : List (List Int)) : List (List Int) := if pErr may ea sa la eb sb lb = 0 then prodRows ea sa sb la lb may else []
noncomputable def ProdEnd (may : Int → Int → Bool) (ea sa : Int) (la : List (List Int)) (eb sb : Int) (lb : List (List Int)) : World → Ending → World → Prop := SpecEnd (pErr may ea sa la eb sb lb) (pEv may ea sa la eb sb lb) 0 (pRows may ea sa la eb sb lb)
theorem pairVal_zero {ea sa : Int} {la : List (List Int)} {eb sb : Int} {lb : List (List Int)} (h : pairVal ea sa la eb sb lb = 0) : specOk ea sa la = true ∧ specOk eb sb lb = true ∧ ea = eb := by
  unfold pairVal at h
  split at h
  · split at h
    · split at h
      · exact ⟨by assumption, by assumption, by assumption⟩
      · simp at h
    · simp at h
  · simp at h

theorem two3_begin (w : World) (x y : Array Value) : two3 w ((w.alloc (.cells x 24)).alloc (.cells y 24)) x y := ⟨⟨below_alloc (below_alloc (Below.refl _ _) _) _⟩, ⟨blk_alloc (blk_new w (.cells x 24)) (.cells y 24)⟩, ⟨blk_at2 w (.cells x 24) (.cells y 24)⟩⟩
set_option maxHeartbeats 1000000 in
theorem pair_calls (ea sa : Int) (A : Option Addr) (ca : Nat) (la : List (List Int)) (eb sb : Int) (B : Option Addr) (cb : Nat) (lb : List (List Int)) (w : World) (hra : Kd.C (Kd.slice 3 (Kd.int .i64)) w A la.length la) (hrb : Kd.C (Kd.slice 3 (Kd.int .i64)) w B lb.length lb) :
    Calls Try.prog 43 #[.agg #[.int .i64 ea, .int .i64 sa, .slice A la.length ca], .agg #[.int .i64 eb, .int .i64 sb, .slice B lb.length cb]] w fun E w' => E = .returned (.int .i64 (pairVal ea sa la eb sb lb)) ∧ Below w.heap.size w w' := by
  have H1 := Aside0.mk fun W (hW : Below w.heap.size w W) => check_calls ea sa A ca la W (Kd.C_below hra hW)
  have H2 := Aside0.mk fun W (hW : Below w.heap.size w W) => check_calls eb sb B cb lb W (Kd.C_below hrb hW)
  clear hra hrb
  cases h1 : specOk ea sa la with
  | false =>
    rw [show pairVal ea sa la eb sb lb = 11 from by simp [pairVal, h1]]
    rw [show checkVal ea sa la = 11 from by simp [checkVal, h1]] at H1
    clear h1
    go_enter Try.func43, Try.ntmps43
    go_upto_region 1 with (fail)
    have HS := two3_begin w #[.int .i64 ea, .int .i64 sa, .slice A la.length ca] #[.int .i64 eb, .int .i64 sb, .slice B lb.length cb]
    generalize ((w.alloc (.cells #[.int .i64 ea, .int .i64 sa, .slice A la.length ca] 24)).alloc (.cells #[.int .i64 eb, .int .i64 sb, .slice B lb.length cb] 24)) = w0 at *
    obtain ⟨⟨hc0, hc1, hc2⟩, hd0, hd1, hd2⟩ := two3_held HS
    go_wp2_with fail
    refine (H1.out _ (HS.1).out).mono ?_
    rintro E w1 ⟨rfl, hb⟩
    have HS1 := two3_keep hb HS
    clear hb HS hc0 hc1 hc2 hd0 hd1 hd2 H1
    obtain ⟨⟨hc0, hc1, hc2⟩, hd0, hd1, hd2⟩ := two3_held HS1
    go_wp2
    go_ret
    exact ⟨rfl, (HS1.1).out⟩
  | true =>
    rw [show checkVal ea sa la = 0 from by simp [checkVal, h1]] at H1
    cases h2 : specOk eb sb lb with
    | false =>
      rw [show pairVal ea sa la eb sb lb = 11 from by simp [pairVal, h1, h2]]
      rw [show checkVal eb sb lb = 11 from by simp [checkVal, h2]] at H2
      clear h1 h2
      go_enter Try.func43, Try.ntmps43
      go_upto_region 1 with (fail)
      have HS := two3_begin w #[.int .i64 ea, .int .i64 sa, .slice A la.length ca] #[.int .i64 eb, .int .i64 sb, .slice B lb.length cb]
      generalize ((w.alloc (.cells #[.int .i64 ea, .int .i64 sa, .slice A la.length ca] 24)).alloc (.cells #[.int .i64 eb, .int .i64 sb, .slice B lb.length cb] 24)) = w0 at *
      obtain ⟨⟨hc0, hc1, hc2⟩, hd0, hd1, hd2⟩ := two3_held HS
      go_wp2_with fail
      refine (H1.out _ (HS.1).out).mono ?_
      rintro E w1 ⟨rfl, hb⟩
      have HS1 := two3_keep hb HS
      clear hb HS hc0 hc1 hc2 hd0 hd1 hd2 H1
      obtain ⟨⟨hc0, hc1, hc2⟩, hd0, hd1, hd2⟩ := two3_held HS1
      go_wp2_with fail
      refine (H2.out _ (HS1.1).out).mono ?_
      rintro E w2 ⟨rfl, hb⟩
      have HS2 := two3_keep hb HS1
      clear hb HS1 hc0 hc1 hc2 hd0 hd1 hd2 H2
      obtain ⟨⟨hc0, hc1, hc2⟩, hd0, hd1, hd2⟩ := two3_held HS2
      go_wp2
      go_ret
      exact ⟨rfl, (HS2.1).out⟩
    | true =>
      rw [show checkVal eb sb lb = 0 from by simp [checkVal, h2]] at H2
      by_cases he : ea = eb
      · rw [show pairVal ea sa la eb sb lb = 0 from by unfold pairVal; rw [h1, h2, if_pos rfl, if_pos rfl, if_pos he]]
        have he2 : (ea == eb) = true := beq_iff_eq.2 he
        clear h1 h2 he
        go_enter Try.func43, Try.ntmps43
        go_upto_region 1 with (fail)
        have HS := two3_begin w #[.int .i64 ea, .int .i64 sa, .slice A la.length ca] #[.int .i64 eb, .int .i64 sb, .slice B lb.length cb]
        generalize ((w.alloc (.cells #[.int .i64 ea, .int .i64 sa, .slice A la.length ca] 24)).alloc (.cells #[.int .i64 eb, .int .i64 sb, .slice B lb.length cb] 24)) = w0 at *
        obtain ⟨⟨hc0, hc1, hc2⟩, hd0, hd1, hd2⟩ := two3_held HS
        go_wp2_with fail
        refine (H1.out _ (HS.1).out).mono ?_
        rintro E w1 ⟨rfl, hb⟩
        have HS1 := two3_keep hb HS
        clear hb HS hc0 hc1 hc2 hd0 hd1 hd2 H1
        obtain ⟨⟨hc0, hc1, hc2⟩, hd0, hd1, hd2⟩ := two3_held HS1
        go_wp2_with fail
        refine (H2.out _ (HS1.1).out).mono ?_
        rintro E w2 ⟨rfl, hb⟩
        have HS2 := two3_keep hb HS1
        clear hb HS1 hc0 hc1 hc2 hd0 hd1 hd2 H2
        obtain ⟨⟨hc0, hc1, hc2⟩, hd0, hd1, hd2⟩ := two3_held HS2
        go_wp2
        go_ret
        exact ⟨rfl, (HS2.1).out⟩
      · rw [show pairVal ea sa la eb sb lb = 2 from by simp [pairVal, h1, h2, he]]
        have he2 : (ea == eb) = false := beq_eq_false_iff_ne.2 he
        clear h1 h2 he
        go_enter Try.func43, Try.ntmps43
        go_upto_region 1 with (fail)
        have HS := two3_begin w #[.int .i64 ea, .int .i64 sa, .slice A la.length ca] #[.int .i64 eb, .int .i64 sb, .slice B lb.length cb]
        generalize ((w.alloc (.cells #[.int .i64 ea, .int .i64 sa, .slice A la.length ca] 24)).alloc (.cells #[.int .i64 eb, .int .i64 sb, .slice B lb.length cb] 24)) = w0 at *
        obtain ⟨⟨hc0, hc1, hc2⟩, hd0, hd1, hd2⟩ := two3_held HS
        go_wp2_with fail
        refine (H1.out _ (HS.1).out).mono ?_
        rintro E w1 ⟨rfl, hb⟩
        have HS1 := two3_keep hb HS
        clear hb HS hc0 hc1 hc2 hd0 hd1 hd2 H1
        obtain ⟨⟨hc0, hc1, hc2⟩, hd0, hd1, hd2⟩ := two3_held HS1
        go_wp2_with fail
        refine (H2.out _ (HS1.1).out).mono ?_
        rintro E w2 ⟨rfl, hb⟩
        have HS2 := two3_keep hb HS1
        clear hb HS1 hc0 hc1 hc2 hd0 hd1 hd2 H2
        obtain ⟨⟨hc0, hc1, hc2⟩, hd0, hd1, hd2⟩ := two3_held HS2
        go_wp2
        go_ret
        exact ⟨rfl, (HS2.1).out⟩

/-! ### Both and Any -/
def mayBoth (x y : Int) : Bool := decide (x ≥ 0) && decide (y ≥ 0)
def mayAny (x y : Int) : Bool := decide (x ≥ 0) || decide (y ≥ 0)
theorem both1_calls : MayW 52 mayBoth := by
  intro W x y
  by_cases h1 : x ≥ 0
  · have h2 : decide (x ≥ 0) = true := by simpa using h1
    have H2 := Aside0.mk h2
    clear h1
    go_enter Try.func52, Try.ntmps52
    go_wp2
    go_ret
    exact ⟨by rw [mayBoth, H2.out, Bool.true_and]; rfl, Below.refl _ _⟩
  · have h2 : decide (x ≥ 0) = false := by simpa using h1
    have H2 := Aside0.mk h2
    clear h1
    go_enter Try.func52, Try.ntmps52
    go_wp2
    go_ret
    exact ⟨by rw [mayBoth, H2.out, Bool.false_and]; rfl, Below.refl _ _⟩
theorem any1_calls : MayW 54 mayAny := by
  intro W x y
  by_cases h1 : x ≥ 0
  · have h2 : decide (x ≥ 0) = true := by simpa using h1
    have H2 := Aside0.mk h2
    clear h1
    go_enter Try.func54, Try.ntmps54
    go_wp2
    go_ret
    exact ⟨by rw [mayAny, H2.out, Bool.true_or]; rfl, Below.refl _ _⟩
  · have h2 : decide (x ≥ 0) = false := by simpa using h1
    have H2 := Aside0.mk h2
    clear h1
    go_enter Try.func54, Try.ntmps54
    go_wp2
    go_ret
    exact ⟨by rw [mayAny, H2.out, Bool.false_or]; rfl, Below.refl _ _⟩
end Go.Proofs.Ytmphigeefppfpaa.H
/- spec.product walked. -/
namespace Go.Proofs.Ytmphigeefppfpaa.H
open Go.RowKit Go.Proofs.YtmphigeefppfpaaW.PrintWords Go.Proofs.YtmphigeefppfpaaW.PrintLast Go.Proofs.YtmphigeefppfpaaW.PrintMore
set_option linter.unusedVariables false

/-- Three cells written into a box. -/
def put3 (W : World) (rb : Nat) (a b c : Value) : World := ((W.setCell ⟨rb, 0, none⟩ a).setCell ⟨rb, 1, none⟩ b).setCell ⟨rb, 2, none⟩ c
theorem put3_grown (W : World) (rb : Nat) (a b c : Value) : W.grownBy (put3 W rb a b c) (some rb) :=
  ⟨rfl, rfl, rfl, by simp [put3, World.setCell], fun i _ hne => by
    have h : i ≠ rb := fun e => hne (by rw [e])
    exact (Below.heap_setCell _ ⟨rb, 2, none⟩ c i h).trans ((Below.heap_setCell _ ⟨rb, 1, none⟩ b i h).trans (Below.heap_setCell _ ⟨rb, 0, none⟩ a i h))⟩
theorem put3_blk {W : World} {rb : Nat} {a0 b0 c0 : Value} (h : W.heap[rb]? = some (.cells #[a0, b0, c0] 24 (0, 0))) (a b c : Value) : (put3 W rb a b c).heap[rb]? = some (.cells #[a, b, c] 24 (0, 0)) := blk_set (blk_set (blk_set h 0 a) 1 b) 2 c
theorem box_cells {W : World} {b : Nat} {x y z : Value} (h : W.heap[b]? = some (.cells #[x, y, z] 24 (0, 0))) : W.cell? ⟨b, 0, none⟩ = some x ∧ W.cell? ⟨b, 1, none⟩ = some y ∧ W.cell? ⟨b, 2, none⟩ = some z :=
  ⟨(blk_cell h 0).trans rfl, (blk_cell h 1).trans rfl, (blk_cell h 2).trans rfl⟩
theorem box_free {W : World} {b : Nat} {x y z : Value} (h : W.heap[b]? = some (.cells #[x, y, z] 24 (0, 0))) : W.frozen? ⟨b, 0, none⟩ = false ∧ W.frozen? ⟨b, 1, none⟩ = false ∧ W.frozen? ⟨b, 2, none⟩ = false :=
  ⟨blk_frozen h 0, blk_frozen h 1, blk_frozen h 2⟩
/-- The boxes of a call with two specifications and a function. -/
structure QB (w W : World) (va vb : Array Value) (fv : Value) : Prop where
  hb : Below w.heap.size w W
  ha : W.heap[w.heap.size]? = some (.cells va 24 (0, 0))
  hbb : W.heap[w.heap.size + 1]? = some (.cells vb 24 (0, 0))
  hf : W.heap[w.heap.size + 2]? = some (.cells #[fv] 71 (0, 0))
  hr : W.heap[w.heap.size + 3]? = some (.cells #[.int .i64 0, .int .i64 0, .slice none 0 0] 24 (0, 0))
theorem QB.below {w W W1 : World} {va vb : Array Value} {fv : Value} (h : QB w W va vb fv) (hb : Below W.heap.size W W1) : QB w W1 va vb fv := ⟨below_then h.hb h.hb.size hb, blk_below h.ha hb, blk_below h.hbb hb, blk_below h.hf hb, blk_below h.hr hb⟩
theorem QB.start (w : World) (va vb : Array Value) (fv : Value) : QB w ((((w.alloc (.cells va 24)).alloc (.cells vb 24)).alloc (.cells #[fv] 71)).alloc (.cells #[.int .i64 0, .int .i64 0, .slice none 0 0] 24)) va vb fv :=
  ⟨below_alloc (below_alloc (below_alloc (below_alloc (Below.refl _ _) _) _) _) _, blk_alloc (blk_alloc (blk_alloc (blk_new _ _) _) _) _, blk_alloc (blk_alloc (blk_at2 _ _ _) _) _, blk_alloc (blk_new' (W := (w.alloc (.cells va 24)).alloc (.cells vb 24)) (k := w.heap.size + 2) (.cells #[fv] 71) (by simp)) _, blk_new' (W := ((w.alloc (.cells va 24)).alloc (.cells vb 24)).alloc (.cells #[fv] 71)) (k := w.heap.size + 3) (.cells #[.int .i64 0, .int .i64 0, .slice none 0 0] 24) (by simp)⟩
theorem wf_small' {x : Int} (h0 : -1 ≤ x) (h1 : x < 9223372036854775808) : wf64 x := by
  simp [wf64, Lit.wf, IntKind.min, IntKind.max, IntKind.signed, IntKind.bits]; omega

set_option maxHeartbeats 4000000 in
theorem product_calls (g : Nat) (may : Int → Int → Bool) (hm : MayW g may) (eg : ∀ args w, (callFunc g args).run Try.prog w = .ok (.enter g args) w) (ea sa : Int) (A : Option Addr) (ca : Nat) (la : List (List Int)) (eb sb : Int) (B : Option Addr) (cb : Nat) (lb : List (List Int)) (w : World)
    (hra : Kd.C (Kd.slice 3 (Kd.int .i64)) w A la.length la) (hca : la.length ≤ ca) (hrb : Kd.C (Kd.slice 3 (Kd.int .i64)) w B lb.length lb) (hcb : lb.length ≤ cb) :
    Calls Try.prog 51 #[.agg #[.int .i64 ea, .int .i64 sa, .slice A la.length ca], .agg #[.int .i64 eb, .int .i64 sb, .slice B lb.length cb], .func (.func g) #[] #[]] w (ProdEnd may ea sa la eb sb lb w) := by
  have H1 := Aside0.mk fun W (hW : Below w.heap.size w W) => pair_calls ea sa A ca la eb sb B cb lb W (Kd.C_below hra hW) (Kd.C_below hrb hW)
  have HA := Aside0.mk hra
  have HB := Aside0.mk hrb
  have HM := Aside0.mk hm
  clear hra hrb hm
  by_cases hp : pairVal ea sa la eb sb lb = 0
  · obtain ⟨hsa, hsb, rfl⟩ := pairVal_zero hp
    rw [hp] at H1
    obtain ⟨_, _, he0, he1, _, hla⟩ := spec_table hsa
    obtain ⟨_, _, _, _, _, hlb⟩ := spec_table hsb
    have hfin := prod_fin (may := may) hsa hsb (pairs la lb)
    have hple := pairs_le hsa hsb
    obtain ⟨hg, hg0, hg1⟩ := table_ok' hfin
    obtain ⟨k, hk, hmin⟩ := cls_stop hg hg0
    have hrows : leastOf ea.toNat (bfsTo ea.toNat (stepQ la lb may) (sa, sb) (pairs la lb)).1 (clsTo (bfsTo ea.toNat (stepQ la lb may) (sa, sb) (pairs la lb)).1 (k + 1)).1 = prodRows ea sa sb la lb may :=
      (least_is hg hg0 hk).1.unique (rleast_is hg hg0 ⟨by omega, by omega⟩).1 (Lq.refl _)
    have HE := Aside0.mk (show (64 < (prodRows ea sa sb la lb may).length → ProdEnd may ea sa la ea sb lb = SpecEnd 3 0 0 []) ∧ (¬ 64 < (prodRows ea sa sb la lb may).length → ProdEnd may ea sa la ea sb lb = SpecEnd 0 ea 0 (prodRows ea sa sb la lb may)) from
      ⟨fun h => by simp [ProdEnd, pErr, pEv, pRows, hp, h], fun h => by simp [ProdEnd, pErr, pEv, pRows, hp, h]⟩)
    have H2 := Aside0.mk fun W (HS : QB w W #[.int .i64 ea, .int .i64 sa, .slice A la.length ca] #[.int .i64 ea, .int .i64 sb, .slice B lb.length cb] (.func (.func g) #[] #[])) =>
      exploredP_calls ea.toNat (sa, sb) 68 #[.pointer (some ⟨w.heap.size, 0, none⟩), .pointer (some ⟨w.heap.size + 1, 0, none⟩), .pointer (some ⟨w.heap.size + 2, 0, none⟩)] (domQ la lb) (stepQ la lb may) (pairs la lb) W (by omega) (by omega) hfin
        (fun W' x e hW hx he => step_calls g may HM.out ea sa sb A B ca cb la lb w.heap.size (w.heap.size + 1) (w.heap.size + 2) x e W' hsa hsb hx (by omega) (blk_below HS.ha hW) (blk_below HS.hbb hW) (blk_below HS.hf hW) (Kd.C_below HA.out (below_then HS.hb HS.hb.size hW)) hca (Kd.C_below HB.out (below_then HS.hb HS.hb.size hW)) hcb eg)
        ⟨spec_domN hsa, spec_domN hsb⟩ (stepQ_dom hsa hsb) (fun x hx => ⟨wf_small' hx.1.1 (by have := hx.1.2; omega), wf_small' hx.2.1 (by have := hx.2.2; omega)⟩) (fun _ _ => rfl)
    have H3 := Aside0.mk fun W A cg (hc : Kd.C (Kd.slice 3 (Kd.int .i64)) W A (bfsTo ea.toNat (stepQ la lb may) (sa, sb) (pairs la lb)).1.length (bfsTo ea.toNat (stepQ la lb may) (sa, sb) (pairs la lb)).1) => least_calls ea.toNat (bfsTo ea.toNat (stepQ la lb may) (sa, sb) (pairs la lb)).1 A cg k 0 W hc (by omega) hg0 (by omega) hg hk hmin
    unfold LeastEnd at H3
    rw [hrows] at H3
    rw [show ((ea.toNat : Nat) : Int) = ea from by omega] at H2 H3
    unfold ExEndP at H2
    generalize prodRows ea sa sb la lb may = rows at *
    generalize (bfsTo ea.toNat (stepQ la lb may) (sa, sb) (pairs la lb)).1 = tab at *
    clear hp hsa hsb hfin hple hg hg0 hg1 hk hmin hrows hla hlb
    have hmf := run_mkfun
    go_enter Try.func51, Try.ntmps51
    go_upto_region 1 with (fail)
    have HS := QB.start w #[.int .i64 ea, .int .i64 sa, .slice A la.length ca] #[.int .i64 ea, .int .i64 sb, .slice B lb.length cb] (.func (.func g) #[] #[])
    generalize ((((w.alloc (.cells #[.int .i64 ea, .int .i64 sa, .slice A la.length ca] 24)).alloc (.cells #[.int .i64 ea, .int .i64 sb, .slice B lb.length cb] 24)).alloc (.cells #[.func (.func g) #[] #[]] 71)).alloc (.cells #[.int .i64 0, .int .i64 0, .slice none 0 0] 24)) = w0 at *
    obtain ⟨hc0, hc1, hc2⟩ := box_cells HS.ha
    obtain ⟨hd0, hd1, hd2⟩ := box_cells HS.hbb
    go_wp2_with fail
    refine (H1.out _ HS.hb).mono ?_
    rintro E w1 ⟨rfl, hb⟩
    have HS1 := HS.below hb
    clear hb HS hc0 hc1 hc2 hd0 hd1 hd2 H1
    obtain ⟨hc0, hc1, hc2⟩ := box_cells HS1.ha
    obtain ⟨hd0, hd1, hd2⟩ := box_cells HS1.hbb
    go_wp2_with fail
    refine (H2.out _ HS1).mono ?_
    rintro E w2 ⟨ov, qv, So, Sq, rfl, _, ho, _, hb⟩
    obtain ⟨Ag, cg, rfl⟩ := Kd.R_slice ho
    have HO := Aside0.mk (Kd.R_reads' ho)
    have HS2 := HS1.below hb
    clear hb ho HS1 hc0 hc1 hc2 hd0 hd1 hd2 H2
    obtain ⟨hc0, hc1, hc2⟩ := box_cells HS2.ha
    go_wp2_with fail
    refine (H3.out _ _ _ (HO.out).2.2).mono ?_
    rintro E w3 ⟨ov2, So2, rfl, ho2, hb2⟩
    obtain ⟨A2, c2, rfl⟩ := Kd.R_slice ho2
    have HO2 := Aside0.mk (Kd.R_lower ho2 HS2.hb.size)
    have HS3 := HS2.below hb2
    clear hb2 ho2 HS2 hc0 hc1 hc2 H3 HO
    obtain ⟨hc0, hc1, hc2⟩ := box_cells HS3.ha
    obtain ⟨hd0, hd1, hd2⟩ := box_cells HS3.hr
    obtain ⟨hf0, hf1, hf2⟩ := box_free HS3.hr
    by_cases h64 : 64 < rows.length
    · have hz : (rows.length : Int) > 64 := by omega
      have HE2 := Aside0.mk ((HE.out).1 h64)
      clear HE h64
      go_wp2
      have hblk := put3_blk HS3.hr (.int .i64 0) (.int .i64 0) (.slice none 0 0)
      have hbl := pw_below_grown HS3.hb _ HS3.hb.size (put3_grown w3 (w.heap.size + 3) (.int .i64 0) (.int .i64 0) (.slice none 0 0)) (fun k hk => by cases hk; omega)
      unfold put3 at hblk hbl
      refine bodyPost_ret (results_row_tmp rfl _ _ (w.heap.size + 3) 24 #[.int .i64 0, .int .i64 0, .slice none 0 0] (0, 0) _ rfl hblk Try.underlying24 rfl (by kernel_rfl)) rfl ?_
      rw [HE2.out]
      exact ⟨none, 0, fun _ => False, rfl, Kd.R_nil _ _ _ _ _, hbl⟩
    · have hz : ¬ (rows.length : Int) > 64 := by omega
      have HE2 := Aside0.mk ((HE.out).2 h64)
      clear HE h64
      go_wp2
      have hblk := put3_blk HS3.hr (.int .i64 ea) (.int .i64 0) (.slice A2 rows.length c2)
      have hgr := put3_grown w3 (w.heap.size + 3) (.int .i64 ea) (.int .i64 0) (.slice A2 rows.length c2)
      have hbl := pw_below_grown HS3.hb _ HS3.hb.size hgr (fun k hk => by cases hk; omega)
      have hR := R_offrow HO2.out HS3.hr (by simp [Kd.slice, Kd.int, Kd.scalar]) hgr
      unfold put3 at hblk hbl hR
      refine bodyPost_ret (results_row_tmp rfl _ _ (w.heap.size + 3) 24 #[.int .i64 ea, .int .i64 0, .slice A2 rows.length c2] (0, 0) _ rfl hblk Try.underlying24 rfl (by kernel_rfl)) rfl ?_
      rw [HE2.out]
      exact ⟨A2, c2, So2, rfl, hR, hbl⟩
  · have HE := Aside0.mk (show ProdEnd may ea sa la eb sb lb = SpecEnd (pairVal ea sa la eb sb lb) 0 0 [] from by simp [ProdEnd, pErr, pEv, pRows, hp])
    generalize pairVal ea sa la eb sb lb = v at *
    have hv : (v == 0) = false := beq_eq_false_iff_ne.2 hp
    clear hp
    go_enter Try.func51, Try.ntmps51
    go_upto_region 1 with (fail)
    have HS := QB.start w #[.int .i64 ea, .int .i64 sa, .slice A la.length ca] #[.int .i64 eb, .int .i64 sb, .slice B lb.length cb] (.func (.func g) #[] #[])
    generalize ((((w.alloc (.cells #[.int .i64 ea, .int .i64 sa, .slice A la.length ca] 24)).alloc (.cells #[.int .i64 eb, .int .i64 sb, .slice B lb.length cb] 24)).alloc (.cells #[.func (.func g) #[] #[]] 71)).alloc (.cells #[.int .i64 0, .int .i64 0, .slice none 0 0] 24)) = w0 at *
    obtain ⟨hc0, hc1, hc2⟩ := box_cells HS.ha
    obtain ⟨hd0, hd1, hd2⟩ := box_cells HS.hbb
    go_wp2_with fail
    refine (H1.out _ HS.hb).mono ?_
    rintro E w1 ⟨rfl, hb⟩
    have HS1 := HS.below hb
    clear hb HS hc0 hc1 hc2 hd0 hd1 hd2 H1
    obtain ⟨hc0, hc1, hc2⟩ := box_cells HS1.hr
    obtain ⟨hf0, hf1, hf2⟩ := box_free HS1.hr
    go_wp2
    have hblk := put3_blk HS1.hr (.int .i64 0) (.int .i64 0) (.slice none 0 0)
    have hbl := pw_below_grown HS1.hb _ HS1.hb.size (put3_grown w1 (w.heap.size + 3) (.int .i64 0) (.int .i64 0) (.slice none 0 0)) (fun k hk => by cases hk; omega)
    unfold put3 at hblk hbl
    refine bodyPost_ret (results_row_tmp rfl _ _ (w.heap.size + 3) 24 #[.int .i64 0, .int .i64 0, .slice none 0 0] (0, 0) _ rfl hblk Try.underlying24 rfl (by kernel_rfl)) rfl ?_
    rw [HE.out]
    exact ⟨none, 0, fun _ => False, rfl, Kd.R_nil _ _ _ _ _, hbl⟩
end Go.Proofs.Ytmphigeefppfpaa.H
/- spec.Both, spec.Any. -/
namespace Go.Proofs.Ytmphigeefppfpaa.H
open Go.RowKit Go.Proofs.YtmphigeefppfpaaW.PrintWords Go.Proofs.YtmphigeefppfpaaW.PrintLast Go.Proofs.YtmphigeefppfpaaW.PrintMore
set_option linter.unusedVariables false

/-- The boxes of a call with two specifications. -/
structure TB (w W : World) (va vb : Array Value) : Prop where
  hb : Below w.heap.size w W
  ha : W.heap[w.heap.size]? = some (.cells va 24 (0, 0))
  hbb : W.heap[w.heap.size + 1]? = some (.cells vb 24 (0, 0))
  hr : W.heap[w.heap.size + 2]? = some (.cells #[.int .i64 0, .int .i64 0, .slice none 0 0] 24 (0, 0))
theorem TB.below {w W W1 : World} {va vb : Array Value} (h : TB w W va vb) (hb : Below W.heap.size W W1) : TB w W1 va vb := ⟨below_then h.hb h.hb.size hb, blk_below h.ha hb, blk_below h.hbb hb, blk_below h.hr hb⟩
theorem TB.start (w : World) (va vb : Array Value) : TB w (((w.alloc (.cells va 24)).alloc (.cells vb 24)).alloc (.cells #[.int .i64 0, .int .i64 0, .slice none 0 0] 24)) va vb :=
  ⟨below_alloc (below_alloc (below_alloc (Below.refl _ _) _) _) _, blk_alloc (blk_alloc (blk_new _ _) _) _, blk_alloc (blk_at2 _ _ _) _, blk_new' (W := (w.alloc (.cells va 24)).alloc (.cells vb 24)) (k := w.heap.size + 2) (.cells #[.int .i64 0, .int .i64 0, .slice none 0 0] 24) (by simp)⟩

set_option maxHeartbeats 1000000 in
theorem both_calls (ea sa : Int) (A : Option Addr) (ca : Nat) (la : List (List Int)) (eb sb : Int) (B : Option Addr) (cb : Nat) (lb : List (List Int)) (w : World)
    (hra : Kd.C (Kd.slice 3 (Kd.int .i64)) w A la.length la) (hca : la.length ≤ ca) (hrb : Kd.C (Kd.slice 3 (Kd.int .i64)) w B lb.length lb) (hcb : lb.length ≤ cb) :
    Calls Try.prog 29 #[.agg #[.int .i64 ea, .int .i64 sa, .slice A la.length ca], .agg #[.int .i64 eb, .int .i64 sb, .slice B lb.length cb]] w (ProdEnd mayBoth ea sa la eb sb lb w) := by
  have H1 := Aside0.mk fun W (hW : Below w.heap.size w W) => product_calls 52 mayBoth both1_calls (fun _ _ => rfl) ea sa A ca la eb sb B cb lb W (Kd.C_below hra hW) hca (Kd.C_below hrb hW) hcb
  unfold ProdEnd SpecEnd at H1
  unfold ProdEnd
  generalize pErr mayBoth ea sa la eb sb lb = err at *
  generalize pEv mayBoth ea sa la eb sb lb = n at *
  generalize pRows mayBoth ea sa la eb sb lb = rows at *
  clear hra hca hrb hcb
  go_enter Try.func29, Try.ntmps29
  go_upto_region 1 with (fail)
  have HS := TB.start w #[.int .i64 ea, .int .i64 sa, .slice A la.length ca] #[.int .i64 eb, .int .i64 sb, .slice B lb.length cb]
  generalize (((w.alloc (.cells #[.int .i64 ea, .int .i64 sa, .slice A la.length ca] 24)).alloc (.cells #[.int .i64 eb, .int .i64 sb, .slice B lb.length cb] 24)).alloc (.cells #[.int .i64 0, .int .i64 0, .slice none 0 0] 24)) = w0 at *
  obtain ⟨hc0, hc1, hc2⟩ := box_cells HS.ha
  obtain ⟨hd0, hd1, hd2⟩ := box_cells HS.hbb
  go_wp2_with fail
  refine (H1.out _ HS.hb).mono ?_
  rintro E w1 ⟨A2, c2, S2, rfl, ho, hb⟩
  have HO2 := Aside0.mk (Kd.R_lower ho HS.hb.size)
  have HS1 := HS.below hb
  clear hb ho HS hc0 hc1 hc2 hd0 hd1 hd2 H1
  obtain ⟨hc0, hc1, hc2⟩ := box_cells HS1.hr
  obtain ⟨hf0, hf1, hf2⟩ := box_free HS1.hr
  go_wp2
  have hblk := put3_blk HS1.hr (.int .i64 n) (.int .i64 0) (.slice A2 rows.length c2)
  have hgr := put3_grown w1 (w.heap.size + 2) (.int .i64 n) (.int .i64 0) (.slice A2 rows.length c2)
  have hbl := pw_below_grown HS1.hb _ HS1.hb.size hgr (fun k hk => by cases hk; omega)
  have hR := R_offrow HO2.out HS1.hr (by simp [Kd.slice, Kd.int, Kd.scalar]) hgr
  unfold put3 at hblk hbl hR
  refine bodyPost_ret (results_row_tmp rfl _ _ (w.heap.size + 2) 24 #[.int .i64 n, .int .i64 0, .slice A2 rows.length c2] (0, 0) _ rfl hblk Try.underlying24 rfl (by kernel_rfl)) rfl ?_
  exact ⟨A2, c2, S2, rfl, hR, hbl⟩

set_option maxHeartbeats 1000000 in
theorem any_calls (ea sa : Int) (A : Option Addr) (ca : Nat) (la : List (List Int)) (eb sb : Int) (B : Option Addr) (cb : Nat) (lb : List (List Int)) (w : World)
    (hra : Kd.C (Kd.slice 3 (Kd.int .i64)) w A la.length la) (hca : la.length ≤ ca) (hrb : Kd.C (Kd.slice 3 (Kd.int .i64)) w B lb.length lb) (hcb : lb.length ≤ cb) :
    Calls Try.prog 31 #[.agg #[.int .i64 ea, .int .i64 sa, .slice A la.length ca], .agg #[.int .i64 eb, .int .i64 sb, .slice B lb.length cb]] w (ProdEnd mayAny ea sa la eb sb lb w) := by
  have H1 := Aside0.mk fun W (hW : Below w.heap.size w W) => product_calls 54 mayAny any1_calls (fun _ _ => rfl) ea sa A ca la eb sb B cb lb W (Kd.C_below hra hW) hca (Kd.C_below hrb hW) hcb
  unfold ProdEnd SpecEnd at H1
  unfold ProdEnd
  generalize pErr mayAny ea sa la eb sb lb = err at *
  generalize pEv mayAny ea sa la eb sb lb = n at *
  generalize pRows mayAny ea sa la eb sb lb = rows at *
  clear hra hca hrb hcb
  go_enter Try.func31, Try.ntmps31
  go_upto_region 1 with (fail)
  have HS := TB.start w #[.int .i64 ea, .int .i64 sa, .slice A la.length ca] #[.int .i64 eb, .int .i64 sb, .slice B lb.length cb]
  generalize (((w.alloc (.cells #[.int .i64 ea, .int .i64 sa, .slice A la.length ca] 24)).alloc (.cells #[.int .i64 eb, .int .i64 sb, .slice B lb.length cb] 24)).alloc (.cells #[.int .i64 0, .int .i64 0, .slice none 0 0] 24)) = w0 at *
  obtain ⟨hc0, hc1, hc2⟩ := box_cells HS.ha
  obtain ⟨hd0, hd1, hd2⟩ := box_cells HS.hbb
  go_wp2_with fail
  refine (H1.out _ HS.hb).mono ?_
  rintro E w1 ⟨A2, c2, S2, rfl, ho, hb⟩
  have HO2 := Aside0.mk (Kd.R_lower ho HS.hb.size)
  have HS1 := HS.below hb
  clear hb ho HS hc0 hc1 hc2 hd0 hd1 hd2 H1
  obtain ⟨hc0, hc1, hc2⟩ := box_cells HS1.hr
  obtain ⟨hf0, hf1, hf2⟩ := box_free HS1.hr
  go_wp2
  have hblk := put3_blk HS1.hr (.int .i64 n) (.int .i64 0) (.slice A2 rows.length c2)
  have hgr := put3_grown w1 (w.heap.size + 2) (.int .i64 n) (.int .i64 0) (.slice A2 rows.length c2)
  have hbl := pw_below_grown HS1.hb _ HS1.hb.size hgr (fun k hk => by cases hk; omega)
  have hR := R_offrow HO2.out HS1.hr (by simp [Kd.slice, Kd.int, Kd.scalar]) hgr
  unfold put3 at hblk hbl hR
  refine bodyPost_ret (results_row_tmp rfl _ _ (w.heap.size + 2) 24 #[.int .i64 n, .int .i64 0, .slice A2 rows.length c2] (0, 0) _ rfl hblk Try.underlying24 rfl (by kernel_rfl)) rfl ?_
  exact ⟨A2, c2, S2, rfl, hR, hbl⟩
end Go.Proofs.Ytmphigeefppfpaa.H
/- The words of products. Plain Lean. -/
namespace Go.Proofs.Ytmphigeefppfpaa.H
open Go.RowKit Go.Proofs.YtmphigeefppfpaaW.PrintWords Go.Proofs.YtmphigeefppfpaaW.PrintLast Go.Proofs.YtmphigeefppfpaaW.PrintMore
set_option linter.unusedVariables false

theorem read_acc {ev : Int} {l : List (List Int)} : ∀ (xs : List Int) (q : Int) (i : Nat), 0 ≤ q → (∀ x ∈ xs, evBad ev x = false) → decide ((readFrom l q i xs).1 ≥ 0) = acc (stepS l) q (xs.map Int.toNat)
  | [], q, i, h, _ => by simp only [readFrom, List.map_nil, acc]; exact decide_eq_true h
  | x :: xs, q, i, h, hx => by
    have hb := hx x List.mem_cons_self
    simp only [evBad, Bool.or_eq_false_iff, decide_eq_false_iff_not] at hb
    have hxx : ((x.toNat : Nat) : Int) = x := by omega
    have ha : acc (stepS l) q ((x :: xs).map Int.toNat) = (decide (stepAt l q x ≥ 0) && acc (stepS l) (stepAt l q x) (xs.map Int.toNat)) := by
      simp only [List.map_cons, acc, stepS]
      rw [hxx]
    rw [ha]
    by_cases hn : stepAt l q x < 0
    · rw [show readFrom l q i (x :: xs) = (-1, i) from if_pos hn, decide_eq_false (by omega : ¬ stepAt l q x ≥ 0)]
      rfl
    · rw [show readFrom l q i (x :: xs) = readFrom l (stepAt l q x) (i + 1) xs from if_neg hn, decide_eq_true (by omega : stepAt l q x ≥ 0), Bool.true_and]
      exact read_acc xs _ (i + 1) (by omega) (fun y hy => hx y (List.mem_cons_of_mem _ hy))
theorem nextB_pos {l : List (List Int)} {q e : Int} (h : 0 ≤ q) : nextB l q e = stepAt l q e := if_neg (by omega)
theorem nextB_neg {l : List (List Int)} {q e : Int} (h : q < 0) : nextB l q e = -1 := if_pos h
theorem acc_both {la lb : List (List Int)} : ∀ (w : List Nat) (x y : Int), 0 ≤ x → 0 ≤ y → acc (stepQ la lb mayBoth) (x, y) w = (acc (stepS la) x w && acc (stepS lb) y w)
  | [], x, y, _, _ => rfl
  | e :: w, x, y, hx, hy => by
    simp only [acc, stepQ, stepS, mayBoth, nextB_pos hx, nextB_pos hy]
    by_cases h1 : stepAt la x e ≥ 0
    · by_cases h2 : stepAt lb y e ≥ 0
      · rw [decide_eq_true h1, decide_eq_true h2, Bool.true_and, Bool.true_and, Bool.true_and, Bool.true_and]
        exact acc_both w _ _ h1 h2
      · rw [decide_eq_false h2]; simp
    · rw [decide_eq_false h1]; simp
theorem acc_any {la lb : List (List Int)} : ∀ (w : List Nat) (x y : Int), (0 ≤ x ∨ 0 ≤ y) → acc (stepQ la lb mayAny) (x, y) w = ((decide (x ≥ 0) && acc (stepS la) x w) || (decide (y ≥ 0) && acc (stepS lb) y w))
  | [], x, y, h => by
    simp only [acc, Bool.and_true]
    rcases h with h | h
    · rw [decide_eq_true (show x ≥ 0 from h)]; rfl
    · rw [decide_eq_true (show y ≥ 0 from h), Bool.or_true]
  | e :: w, x, y, h => by
    simp only [acc, stepQ, stepS, mayAny]
    have hx : (decide (x ≥ 0) && (decide (stepAt la x e ≥ 0) && acc (stepS la) (stepAt la x e) w)) = (decide (nextB la x e ≥ 0) && acc (stepS la) (nextB la x e) w) := by
      by_cases h1 : x ≥ 0
      · rw [decide_eq_true h1, nextB_pos h1, Bool.true_and]
      · rw [decide_eq_false h1, nextB_neg (by omega), decide_eq_false (by omega : ¬ (-1 : Int) ≥ 0)]; rfl
    have hy : (decide (y ≥ 0) && (decide (stepAt lb y e ≥ 0) && acc (stepS lb) (stepAt lb y e) w)) = (decide (nextB lb y e ≥ 0) && acc (stepS lb) (nextB lb y e) w) := by
      by_cases h1 : y ≥ 0
      · rw [decide_eq_true h1, nextB_pos h1, Bool.true_and]
      · rw [decide_eq_false h1, nextB_neg (by omega), decide_eq_false (by omega : ¬ (-1 : Int) ≥ 0)]; rfl
    rw [hx, hy]
    by_cases h3 : nextB la x e ≥ 0 ∨ nextB lb y e ≥ 0
    · rw [acc_any w _ _ h3]
      rcases h3 with h3 | h3
      · rw [decide_eq_true h3]; simp
      · rw [decide_eq_true h3]; simp
    · rw [decide_eq_false (by omega : ¬ nextB la x e ≥ 0), decide_eq_false (by omega : ¬ nextB lb y e ≥ 0)]; rfl
/-- The rows of a product read what the pairs read. -/
theorem prod_is {ev sa sb : Int} {la lb : List (List Int)} {may : Int → Int → Bool} (ha : specOk ev sa la = true) (hb : specOk ev sb lb = true) : IsLeast ev.toNat (prodB ev sa sb la lb may).1 0 (prodRows ev sa sb la lb may) ∧ Lq ev.toNat (stepS (prodRows ev sa sb la lb may)) (stepQ la lb may) 0 (sa, sb) := by
  have hfin := prod_fin (may := may) ha hb (pairs la lb)
  obtain ⟨hg, hg0, _⟩ := table_ok' hfin
  have h1 := (rleast_is hg hg0 ⟨Int.le_refl _, Int.ofNat_lt.2 (show 0 < (bfsTo ev.toNat (stepQ la lb may) (sa, sb) (pairs la lb)).1.length from hg0)⟩ : IsLeast ev.toNat (prodB ev sa sb la lb may).1 0 (prodRows ev sa sb la lb may) ∧ _).1
  obtain ⟨_, ⟨r, hr⟩, _⟩ := bfs_done hfin
  exact ⟨h1, (isLeast_lq h1).trans (table_lq' (i := 0) hfin (by rw [hr]; rfl))⟩
theorem prod_spec {ev sa sb : Int} {la lb : List (List Int)} {may : Int → Int → Bool} (ha : specOk ev sa la = true) (hb : specOk ev sb lb = true) (h : (prodRows ev sa sb la lb may).length ≤ 64) : specOk ev 0 (prodRows ev sa sb la lb may) = true := by
  obtain ⟨_, _, h0, h1, _⟩ := spec_table ha
  obtain ⟨h3, h4⟩ := isLeast_ok (prod_is (may := may) ha hb).1
  have := specOk_of h3 h4 h (by omega)
  rwa [show ((ev.toNat : Nat) : Int) = ev from by omega] at this
theorem pErr_zero {may : Int → Int → Bool} {ea sa : Int} {la : List (List Int)} {eb sb : Int} {lb : List (List Int)} (h : pErr may ea sa la eb sb lb = 0) : specOk ea sa la = true ∧ specOk eb sb lb = true ∧ ea = eb ∧ (prodRows ea sa sb la lb may).length ≤ 64 := by
  unfold pErr at h
  split at h
  · rename_i h0
    obtain ⟨h1, h2, h3⟩ := pairVal_zero h0
    split at h
    · simp at h
    · exact ⟨h1, h2, h3, by omega⟩
  · exact absurd h (by assumption)
/-- Reading in a product. -/
theorem prod_read {may : Int → Int → Bool} {ea sa : Int} {la : List (List Int)} {eb sb : Int} {lb : List (List Int)} {xs : List Int} (h : pErr may ea sa la eb sb lb = 0) (hx : (readVal ea sa la xs).2.2 = 0) :
    (readVal (pEv may ea sa la eb sb lb) 0 (pRows may ea sa la eb sb lb) xs).2.2 = 0 ∧
    decide ((readVal (pEv may ea sa la eb sb lb) 0 (pRows may ea sa la eb sb lb) xs).1 ≥ 0) = acc (stepQ la lb may) (sa, sb) (xs.map Int.toNat) ∧
    decide ((readVal ea sa la xs).1 ≥ 0) = acc (stepS la) sa (xs.map Int.toNat) ∧ decide ((readVal eb sb lb xs).1 ≥ 0) = acc (stepS lb) sb (xs.map Int.toNat) ∧ 0 ≤ sa ∧ 0 ≤ sb := by
  obtain ⟨ha, hb, rfl, hl⟩ := pErr_zero h
  have hs := prod_spec (may := may) ha hb hl
  obtain ⟨_, hda, h0, _⟩ := spec_table ha
  obtain ⟨_, hdb, _⟩ := spec_table hb
  rw [show pEv may ea sa la ea sb lb = ea from if_pos h, show pRows may ea sa la ea sb lb = prodRows ea sa sb la lb may from if_pos h]
  unfold readVal at hx ⊢
  rw [ha] at hx ⊢
  rw [hb, hs]
  simp only [if_neg (by simp : ¬ (true = false))] at hx ⊢
  by_cases h4 : xs.length > 4096
  · rw [if_pos h4] at hx; simp at hx
  · rw [if_neg h4] at hx
    simp only [if_neg h4]
    cases hany : xs.any (evBad ea) with
    | true => rw [hany] at hx; simp at hx
    | false =>
      have hxe : ∀ x ∈ xs, evBad ea x = false := fun x hx => by
        simp only [List.any_eq_false, Bool.not_eq_true] at hany
        exact hany x hx
      simp only [Bool.false_eq_true, if_false]
      refine ⟨trivial, ?_, read_acc xs sa 0 hda.1 hxe, read_acc xs sb 0 hdb.1 hxe, hda.1, hdb.1⟩
      refine (read_acc xs 0 0 (Int.le_refl _) hxe).trans ?_
      refine (prod_is (may := may) ha hb).2 _ (fun e he => ?_)
      obtain ⟨x, hx, rfl⟩ := List.mem_map.1 he
      have := hxe x hx
      simp only [evBad, Bool.or_eq_false_iff, decide_eq_false_iff_not] at this
      omega
end Go.Proofs.Ytmphigeefppfpaa.H
/- The row SpecWords. -/
namespace Go.Proofs.Ytmphigeefppfpaa.H
open Go.RowKit Go.Proofs.YtmphigeefppfpaaW.PrintWords Go.Proofs.YtmphigeefppfpaaW.PrintLast Go.Proofs.YtmphigeefppfpaaW.PrintMore
set_option linter.unusedVariables false

set_option maxHeartbeats 8000000 in
set_option maxRecDepth 100000 in
theorem specWords_calls (ea sa : Int) (A : Option Addr) (ca : Nat) (la : List (List Int)) (eb sb : Int) (B : Option Addr) (cb : Nat) (lb : List (List Int)) (A3 : Option Addr) (c3 : Nat) (xs : List Int) (w : World)
    (hra : Kd.C (Kd.slice 3 (Kd.int .i64)) w A la.length la) (hca : la.length ≤ ca) (hrb : Kd.C (Kd.slice 3 (Kd.int .i64)) w B lb.length lb) (hcb : lb.length ≤ cb) (hr3 : Kd.C (Kd.int .i64) w A3 xs.length xs) (hc3 : xs.length ≤ c3) :
    Calls Try.prog 10 #[.agg #[.int .i64 ea, .int .i64 sa, .slice A la.length ca], .agg #[.int .i64 eb, .int .i64 sb, .slice B lb.length cb], .slice A3 xs.length c3] w fun e w' => e = .returned (.bool true) ∧ Below w.heap.size w w' := by
  have H1 := Aside0.mk fun W (hW : Below w.heap.size w W) => read_calls ea sa A ca la A3 c3 xs W (Kd.C_below hra hW) (Kd.C_below hr3 hW)
  have H2 := Aside0.mk fun W (hW : Below w.heap.size w W) => read_calls eb sb B cb lb A3 c3 xs W (Kd.C_below hrb hW) (Kd.C_below hr3 hW)
  have H3 := Aside0.mk fun W (hW : Below w.heap.size w W) => both_calls ea sa A ca la eb sb B cb lb W (Kd.C_below hra hW) hca (Kd.C_below hrb hW) hcb
  have H4 := Aside0.mk fun W (hW : Below w.heap.size w W) => any_calls ea sa A ca la eb sb B cb lb W (Kd.C_below hra hW) hca (Kd.C_below hrb hW) hcb
  have H5 := Aside0.mk fun W C cc (hW : Below w.heap.size w W) (hC : Kd.C (Kd.slice 3 (Kd.int .i64)) W C (pRows mayBoth ea sa la eb sb lb).length (pRows mayBoth ea sa la eb sb lb)) => read_calls (pEv mayBoth ea sa la eb sb lb) 0 C cc (pRows mayBoth ea sa la eb sb lb) A3 c3 xs W hC (Kd.C_below hr3 hW)
  have H6 := Aside0.mk fun W C cc (hW : Below w.heap.size w W) (hC : Kd.C (Kd.slice 3 (Kd.int .i64)) W C (pRows mayAny ea sa la eb sb lb).length (pRows mayAny ea sa la eb sb lb)) => read_calls (pEv mayAny ea sa la eb sb lb) 0 C cc (pRows mayAny ea sa la eb sb lb) A3 c3 xs W hC (Kd.C_below hr3 hW)
  have HPB : pErr mayBoth ea sa la eb sb lb = 0 → (readVal ea sa la xs).2.2 = 0 → (readVal (pEv mayBoth ea sa la eb sb lb) 0 (pRows mayBoth ea sa la eb sb lb) xs).2.2 = 0 ∧ decide ((readVal (pEv mayBoth ea sa la eb sb lb) 0 (pRows mayBoth ea sa la eb sb lb) xs).1 ≥ 0) = (decide ((readVal ea sa la xs).1 ≥ 0) && decide ((readVal eb sb lb xs).1 ≥ 0)) := fun h hx => by
    obtain ⟨h1, h2, h3, h4, h5, h6⟩ := prod_read h hx
    exact ⟨h1, by rw [h2, h3, h4]; exact acc_both _ _ _ h5 h6⟩
  have HPA : pErr mayAny ea sa la eb sb lb = 0 → (readVal ea sa la xs).2.2 = 0 → (readVal (pEv mayAny ea sa la eb sb lb) 0 (pRows mayAny ea sa la eb sb lb) xs).2.2 = 0 ∧ decide ((readVal (pEv mayAny ea sa la eb sb lb) 0 (pRows mayAny ea sa la eb sb lb) xs).1 ≥ 0) = (decide ((readVal ea sa la xs).1 ≥ 0) || decide ((readVal eb sb lb xs).1 ≥ 0)) := fun h hx => by
    obtain ⟨h1, h2, h3, h4, h5, h6⟩ := prod_read h hx
    refine ⟨h1, ?_⟩
    rw [h2, h3, h4, acc_any _ _ _ (.inl h5), decide_eq_true (show sa ≥ 0 from h5), decide_eq_true (show sb ≥ 0 from h6), Bool.true_and, Bool.true_and]
  unfold ProdEnd at H3 H4
  unfold tri at H1 H2 H5 H6
  generalize pErr mayBoth ea sa la eb sb lb = eB at *
  generalize pEv mayBoth ea sa la eb sb lb = nB at *
  generalize pRows mayBoth ea sa la eb sb lb = rB at *
  generalize pErr mayAny ea sa la eb sb lb = eA at *
  generalize pEv mayAny ea sa la eb sb lb = nA at *
  generalize pRows mayAny ea sa la eb sb lb = rA at *
  generalize readVal ea sa la xs = R1 at *
  generalize readVal eb sb lb xs = R2 at *
  generalize readVal nB 0 rB xs = R5 at *
  generalize readVal nA 0 rA xs = R6 at *
  obtain ⟨p1, n1, e1⟩ := R1
  obtain ⟨p2, n2, e2⟩ := R2
  obtain ⟨p5, n5, e5⟩ := R5
  obtain ⟨p6, n6, e6⟩ := R6
  simp only at HPA HPB H1 H2 H5 H6
  clear hra hca hrb hcb hr3 hc3
  by_cases he1 : e1 = 0
  · by_cases he2 : e2 = 0
    · subst he1 he2
      generalize hP : decide (p1 ≥ 0) = bp at *
      generalize hQ : decide (p2 ≥ 0) = bq at *
      have KPB := Aside0.mk (show eB = 0 → e5 = 0 ∧ decide (p5 ≥ 0) = (bp && bq) from fun h => HPB h (by trivial))
      have KPA := Aside0.mk (show eA = 0 → e6 = 0 ∧ decide (p6 ≥ 0) = (bp || bq) from fun h => HPA h (by trivial))
      clear HPA HPB
      cases bp <;> cases bq
      all_goals
        go_enter Try.func10, Try.ntmps10
        go_upto_region 1 with (fail)
        have HS := ((Bx.start w).alloc #[.int .i64 ea, .int .i64 sa, .slice A la.length ca]).alloc #[.int .i64 eb, .int .i64 sb, .slice B lb.length cb]
        have hsz : (w.alloc (.cells #[.int .i64 ea, .int .i64 sa, .slice A la.length ca] 24)).heap.size = w.heap.size + 1 := by simp
        rw [hsz] at HS
        clear hsz
        generalize ((w.alloc (.cells #[.int .i64 ea, .int .i64 sa, .slice A la.length ca] 24)).alloc (.cells #[.int .i64 eb, .int .i64 sb, .slice B lb.length cb] 24)) = w0 at *
        obtain ⟨hc0, hc1, hc2⟩ := HS.cell (b := w.heap.size) mem1
        go_wp2_with fail
        refine (H1.out _ HS.hb).mono ?_
        rintro E w1 ⟨rfl, hb⟩
        have HS1 := HS.below hb
        clear hb HS hc0 hc1 hc2 H1
        obtain ⟨hc0, hc1, hc2⟩ := HS1.cell (b := w.heap.size + 1) List.mem_cons_self
        go_wp2_with fail
        refine (H2.out _ HS1.hb).mono ?_
        rintro E w2 ⟨rfl, hb⟩
        have HS2 := HS1.below hb
        clear hb HS1 hc0 hc1 hc2 H2
        obtain ⟨hc0, hc1, hc2⟩ := HS2.cell (b := w.heap.size) mem1
        obtain ⟨hd0, hd1, hd2⟩ := HS2.cell (b := w.heap.size + 1) List.mem_cons_self
        go_wp2_with fail
        refine (H3.out _ HS2.hb).mono ?_
        rintro E w3 hE
        obtain ⟨C5, c5, hc55, rfl, HS3⟩ := HS2.spec hE
        clear hE HS2 H3 hc0 hc1 hc2 hd0 hd1 hd2
        go_upto_region 6 with (fail)
        have HS4 := HS3.alloc #[.int .i64 nB, .int .i64 0, .slice C5 rB.length c5]
        clear HS3
        generalize (w3.alloc (.cells #[.int .i64 nB, .int .i64 0, .slice C5 rB.length c5] 24)) = w4 at *
        generalize w3.heap.size = b5 at *
        obtain ⟨hc0, hc1, hc2⟩ := HS4.cell (b := b5) List.mem_cons_self
        by_cases hB : eB = 0
        · subst hB
          obtain ⟨hh5, hd5⟩ := KPB.out rfl
          subst hh5
          simp only [Bool.and_true, Bool.and_false] at hd5
          clear KPB
          go_wp2_with fail
          refine (H5.out _ C5 c5 HS4.hb (HS4.hc (C5, rB) List.mem_cons_self)).mono ?_
          rintro E w5 ⟨rfl, hb⟩
          have HS5 := HS4.below hb
          clear hb HS4 H5 hc0 hc1 hc2
          go_upto_region 10 with (fail)
          obtain ⟨hc0, hc1, hc2⟩ := HS5.cell (b := w.heap.size) mem2
          obtain ⟨hd0, hd1, hd2⟩ := HS5.cell (b := w.heap.size + 1) mem1
          go_wp2_with fail
          refine (H4.out _ HS5.hb).mono ?_
          rintro E w6 hE
          obtain ⟨C6, c6, hc66, rfl, HS6⟩ := HS5.spec hE
          clear hE HS5 H4 hc0 hc1 hc2 hd0 hd1 hd2
          go_upto_region 11 with (fail)
          have HS7 := HS6.alloc #[.int .i64 nA, .int .i64 0, .slice C6 rA.length c6]
          clear HS6
          generalize (w6.alloc (.cells #[.int .i64 nA, .int .i64 0, .slice C6 rA.length c6] 24)) = w7 at *
          generalize w6.heap.size = b6 at *
          obtain ⟨hc0, hc1, hc2⟩ := HS7.cell (b := b6) List.mem_cons_self
          by_cases hA : eA = 0
          · subst hA
            obtain ⟨hh6, hd6⟩ := KPA.out rfl
            subst hh6
            simp only [Bool.or_true, Bool.or_false] at hd6
            go_wp2_with fail
            refine (H6.out _ C6 c6 HS7.hb (HS7.hc (C6, rA) List.mem_cons_self)).mono ?_
            rintro E w8 ⟨rfl, hb⟩
            have HS8 := HS7.below hb
            clear hb HS7 H6 hc0 hc1 hc2
            go_wp2_with fail
            refine (alive_calls _).mono ?_
            rintro E w9 ⟨rfl, hb⟩
            have HS9 := HS8.below hb
            go_wp2
            go_ret
            exact ⟨rfl, HS9.hb⟩
          · have hz6 : (eA == 0) = false := beq_eq_false_iff_ne.2 hA
            clear KPA hA
            go_wp2_with fail
            refine (alive_calls _).mono ?_
            rintro E w9 ⟨rfl, hb⟩
            have HS9 := HS7.below hb
            go_wp2
            go_ret
            exact ⟨rfl, HS9.hb⟩
        · have hz5 : (eB == 0) = false := beq_eq_false_iff_ne.2 hB
          clear KPB hB
          go_upto_region 10 with (fail)
          have HS5 := HS4
          clear HS4 H5 hc0 hc1 hc2
          generalize w4 = w5 at *
          obtain ⟨hc0, hc1, hc2⟩ := HS5.cell (b := w.heap.size) mem2
          obtain ⟨hd0, hd1, hd2⟩ := HS5.cell (b := w.heap.size + 1) mem1
          go_wp2_with fail
          refine (H4.out _ HS5.hb).mono ?_
          rintro E w6 hE
          obtain ⟨C6, c6, hc66, rfl, HS6⟩ := HS5.spec hE
          clear hE HS5 H4 hc0 hc1 hc2 hd0 hd1 hd2
          go_upto_region 11 with (fail)
          have HS7 := HS6.alloc #[.int .i64 nA, .int .i64 0, .slice C6 rA.length c6]
          clear HS6
          generalize (w6.alloc (.cells #[.int .i64 nA, .int .i64 0, .slice C6 rA.length c6] 24)) = w7 at *
          generalize w6.heap.size = b6 at *
          obtain ⟨hc0, hc1, hc2⟩ := HS7.cell (b := b6) List.mem_cons_self
          by_cases hA : eA = 0
          · subst hA
            obtain ⟨hh6, hd6⟩ := KPA.out rfl
            subst hh6
            simp only [Bool.or_true, Bool.or_false] at hd6
            go_wp2_with fail
            refine (H6.out _ C6 c6 HS7.hb (HS7.hc (C6, rA) List.mem_cons_self)).mono ?_
            rintro E w8 ⟨rfl, hb⟩
            have HS8 := HS7.below hb
            clear hb HS7 H6 hc0 hc1 hc2
            go_wp2_with fail
            refine (alive_calls _).mono ?_
            rintro E w9 ⟨rfl, hb⟩
            have HS9 := HS8.below hb
            go_wp2
            go_ret
            exact ⟨rfl, HS9.hb⟩
          · have hz6 : (eA == 0) = false := beq_eq_false_iff_ne.2 hA
            clear KPA hA
            go_wp2_with fail
            refine (alive_calls _).mono ?_
            rintro E w9 ⟨rfl, hb⟩
            have HS9 := HS7.below hb
            go_wp2
            go_ret
            exact ⟨rfl, HS9.hb⟩
    · subst he1
      have hz2 : (e2 == 0) = false := beq_eq_false_iff_ne.2 he2
      clear HPA HPB H3 H4 H5 H6 he2
      go_enter Try.func10, Try.ntmps10
      go_upto_region 1 with (fail)
      have HS := ((Bx.start w).alloc #[.int .i64 ea, .int .i64 sa, .slice A la.length ca]).alloc #[.int .i64 eb, .int .i64 sb, .slice B lb.length cb]
      have hsz : (w.alloc (.cells #[.int .i64 ea, .int .i64 sa, .slice A la.length ca] 24)).heap.size = w.heap.size + 1 := by simp
      rw [hsz] at HS
      clear hsz
      generalize ((w.alloc (.cells #[.int .i64 ea, .int .i64 sa, .slice A la.length ca] 24)).alloc (.cells #[.int .i64 eb, .int .i64 sb, .slice B lb.length cb] 24)) = w0 at *
      obtain ⟨hc0, hc1, hc2⟩ := HS.cell (b := w.heap.size) mem1
      go_wp2_with fail
      refine (H1.out _ HS.hb).mono ?_
      rintro E w1 ⟨rfl, hb⟩
      have HS1 := HS.below hb
      clear hb HS hc0 hc1 hc2 H1
      obtain ⟨hc0, hc1, hc2⟩ := HS1.cell (b := w.heap.size + 1) List.mem_cons_self
      go_wp2_with fail
      refine (H2.out _ HS1.hb).mono ?_
      rintro E w2 ⟨rfl, hb⟩
      have HS2 := HS1.below hb
      clear hb HS1 hc0 hc1 hc2 H2
      go_wp2_with fail
      refine (alive_calls _).mono ?_
      rintro E w9 ⟨rfl, hb⟩
      have HS9 := HS2.below hb
      go_wp2
      go_ret
      exact ⟨rfl, HS9.hb⟩
  · have hz1 : (e1 == 0) = false := beq_eq_false_iff_ne.2 he1
    clear HPA HPB H3 H4 H5 H6 he1
    go_enter Try.func10, Try.ntmps10
    go_upto_region 1 with (fail)
    have HS := ((Bx.start w).alloc #[.int .i64 ea, .int .i64 sa, .slice A la.length ca]).alloc #[.int .i64 eb, .int .i64 sb, .slice B lb.length cb]
    have hsz : (w.alloc (.cells #[.int .i64 ea, .int .i64 sa, .slice A la.length ca] 24)).heap.size = w.heap.size + 1 := by simp
    rw [hsz] at HS
    clear hsz
    generalize ((w.alloc (.cells #[.int .i64 ea, .int .i64 sa, .slice A la.length ca] 24)).alloc (.cells #[.int .i64 eb, .int .i64 sb, .slice B lb.length cb] 24)) = w0 at *
    obtain ⟨hc0, hc1, hc2⟩ := HS.cell (b := w.heap.size) mem1
    go_wp2_with fail
    refine (H1.out _ HS.hb).mono ?_
    rintro E w1 ⟨rfl, hb⟩
    have HS1 := HS.below hb
    clear hb HS hc0 hc1 hc2 H1
    obtain ⟨hc0, hc1, hc2⟩ := HS1.cell (b := w.heap.size + 1) List.mem_cons_self
    go_wp2_with fail
    refine (H2.out _ HS1.hb).mono ?_
    rintro E w2 ⟨rfl, hb⟩
    have HS2 := HS1.below hb
    clear hb HS1 hc0 hc1 hc2 H2
    go_wp2_with fail
    refine (alive_calls _).mono ?_
    rintro E w9 ⟨rfl, hb⟩
    have HS9 := HS2.below hb
    go_wp2
    go_ret
    exact ⟨rfl, HS9.hb⟩
end Go.Proofs.Ytmphigeefppfpaa.H
