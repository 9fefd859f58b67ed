/- What specEqual_calls needs, out of my texts, by a program (slim.py). -/
import Derived.Test.YtmphigeefppfpaaProg
import Derived.Below
import Derived.Deep.Draws
import Derived.Deep.AppendLies
import Derived.Maps.AppendAt
import Derived.OwnWalk
import Derived.Laws.BytesArg
import Derived.Laws.MakeOwn
import Derived.Laws.OwnMore
import Derived.Deep.OwnRows
import Derived.Tactics
import Derived.Lib.ConvBytes
import Derived.Laws.Slices
import Derived.WalkKit
import Derived.KernelRfl
import Derived.RowKit3
import Derived.Deep.LoopGhost
import Derived.Deep.QuietTactic
import Derived.BigQuiet
import Derived.WideLaws
import Derived.Deep.DeepCutAuto
import Derived.Deep.CutBlock
import Derived.Deep.RegionHeld3
import Derived.Laws.Rows
import Derived.Lib.AppendStr
import Derived.ArgAppend
import Derived.Laws.IdiomCopy
import Derived.OrdersHeld
import Derived.Laws.BitsLemmas
import Derived.RowKit
import Derived.Test.YtmphigeefppfpaaWWords
import Derived.Test.YtmphigeefppfpaaWLast
import Derived.Test.YtmphigeefppfpaaWTab
import Derived.Test.YtmphigeefppfpaaWFour
import Derived.Test.YtmphigeefppfpaaWQPut
import Derived.Test.YtmphigeefppfpaaWApart
import Derived.Test.YtmphigeefppfpaaWArr
import Derived.Test.YtmphigeefppfpaaWZeros
import Derived.Test.YtmphigeefppfpaaWFoot
import Derived.Test.YtmphigeefppfpaaWKept
import Derived.Test.YtmphigeefppfpaaWShare
import Derived.Test.YtmphigeefppfpaaWN
import Derived.Test.YtmphigeefppfpaaWFootNe
import Derived.Test.YtmphigeefppfpaaWAt
import Derived.Test.YtmphigeefppfpaaWEqStruct
import Derived.Test.YtmphigeefppfpaaWRepsOne
import Derived.Test.YtmphigeefppfpaaWInv
import Derived.Test.YtmphigeefppfpaaWInvWords
import Derived.Test.YtmphigeefppfpaaWGuard
import Derived.Test.YtmphigeefppfpaaWNEv
import Derived.Test.YtmphigeefppfpaaWMore
import Derived.Maps.OwnSet
import Derived.DeepKeys4
import Derived.Laws.ResultCell
import Derived.RegionTactic
import Derived.ChangeAlike
import Derived.ChangeKeysEq
import Derived.Laws.StructEq
import Derived.Deep.RegionLaw
import Derived.Test.YtmphigeefppfpaaS20
namespace Go.Proofs.Ytmphigeefppfpaa.H
open Go.RowKit Go.Proofs.YtmphigeefppfpaaW.PrintWords Go.Proofs.YtmphigeefppfpaaW.PrintLast Go.Proofs.YtmphigeefppfpaaW.PrintMore
set_option linter.unusedVariables false
/-- A step of a read. -/
def nrd (l : List (List Int)) (q x : Int) : Int := if stepAt l q x < 0 then -1 else stepAt l q x
theorem readFrom_snoc {l : List (List Int)} {x : Int} : ∀ (xs : List Int) (q : Int) (i : Nat), (readFrom l q i xs).1 ≥ 0 → (readFrom l q i (xs ++ [x])).1 = nrd l (readFrom l q i xs).1 x
  | [], q, i, _ => by
    show (if stepAt l q x < 0 then (-1, i) else readFrom l (stepAt l q x) (i + 1) []).1 = nrd l q x
    unfold nrd
    by_cases hn : stepAt l q x < 0
    · rw [if_pos hn, if_pos hn]
    · rw [if_neg hn, if_neg hn]; rfl
  | y :: xs, q, i, h => by
    by_cases hn : stepAt l q y < 0
    · have e1 : readFrom l q i (y :: xs) = (-1, i) := if_pos hn
      rw [e1] at h
      exact absurd h (by show ¬ (-1 : Int) ≥ 0; decide)
    · have e1 : ∀ zs, readFrom l q i (y :: zs) = readFrom l (stepAt l q y) (i + 1) zs := fun zs => if_neg hn
      rw [e1] at h
      rw [List.cons_append, e1, e1]
      exact readFrom_snoc xs _ _ h
section
variable {la lb : List (List Int)} {n e i m N : Nat} {s : Int × Int} {x : PT} {l : List PT}
/-- The word leads to the pair. -/
def Leads (la lb : List (List Int)) (n : Nat) (s : Int × Int) (t : PT) : Prop := (readFrom la s.1 0 t.wd).1 = t.p.1 ∧ (readFrom lb s.2 0 t.wd).1 = t.p.2 ∧ ∀ v ∈ t.wd, 0 ≤ v ∧ v < (n : Int)
theorem next_read {l : List (List Int)} {q : Int} (hq : 0 ≤ q) (e : Nat) (hd : -1 ≤ nextB l q e) : nrd l q e = nextB l q e := by
  rw [nextB_pos hq] at hd ⊢
  unfold nrd
  split
  · omega
  · rfl
theorem leads_nxt {sa sb : Int} (ha : specOk n sa la = true) (hb : specOk n sb lb = true) (hx : domB la lb x.p) (h : Leads la lb n s x) (he : e < n) : Leads la lb n s (nxt la lb x e) := by
  have hd := stp_dom ha hb hx.q (show (e : Int) < (n : Int) by omega)
  obtain ⟨h1, h2, h3⟩ := h
  have hx1 := hx.1.1
  have hx2 := hx.2.1
  refine ⟨?_, ?_, fun v hv => ?_⟩
  · show (readFrom la s.1 0 (x.wd ++ [(e : Int)])).1 = nextB la x.p.1 e
    rw [readFrom_snoc _ _ _ (by rw [h1]; omega), h1]
    exact next_read hx1 e hd.1.1
  · show (readFrom lb s.2 0 (x.wd ++ [(e : Int)])).1 = nextB lb x.p.2 e
    rw [readFrom_snoc _ _ _ (by rw [h2]; omega), h2]
    exact next_read hx2 e hd.2.1
  · rcases List.mem_append.1 hv with hv | hv
    · exact h3 v hv
    · rw [List.mem_singleton.1 hv]; omega
theorem apRow_leads {sa sb : Int} (ha : specOk n sa la = true) (hb : specOk n sb lb = true) (hx : domB la lb x.p) (hxl : Leads la lb n s x) (hl : ∀ t ∈ l, Leads la lb n s t) : ∀ e : Nat, e ≤ n → ∀ t ∈ apRow la lb x l e, Leads la lb n s t
  | 0, _ => hl
  | e + 1, he => by
    intro t ht
    simp only [apRow] at ht
    split at ht
    · exact apRow_leads ha hb hx hxl hl e (by omega) t ht
    · rcases List.mem_append.1 ht with ht | ht
      · exact apRow_leads ha hb hx hxl hl e (by omega) t ht
      · rw [List.mem_singleton.1 ht]
        exact leads_nxt ha hb hx hxl (by omega)
theorem apTo_leads {sa sb : Int} (ha : specOk n sa la = true) (hb : specOk n sb lb = true) (hs : domB la lb s) : ∀ i, ∀ t ∈ apTo la lb n s i, Leads la lb n s t
  | 0 => fun t ht => by rw [List.mem_singleton.1 ht]; exact ⟨rfl, rfl, fun v hv => absurd hv List.not_mem_nil⟩
  | i + 1 => by
    cases hx : (apTo la lb n s i)[i]? with
    | none => rw [apTo_stop hx]; exact apTo_leads ha hb hs i
    | some x =>
      rw [apTo_step hx]
      exact apRow_leads ha hb (apTo_dom ha hb hs i x (List.mem_of_getElem? hx)) (apTo_leads ha hb hs i x (List.mem_of_getElem? hx)) (apTo_leads ha hb hs i) n (Nat.le_refl _)
theorem rowAns_some {w : List Int} : ∀ {m : Nat}, rowAns la lb x m = some w → ∃ e, e < m ∧ oneB (stp la lb x.p e) = true ∧ w = x.wd ++ [(e : Int)]
  | 0, h => by simp [rowAns] at h
  | m + 1, h => by
    rw [rowAns] at h
    cases h1 : rowAns la lb x m with
    | some v =>
      rw [h1] at h
      obtain ⟨e, h2, h3⟩ := rowAns_some h1
      have : v = w := by simpa using h
      subst this
      exact ⟨e, by omega, h3⟩
    | none =>
      rw [h1] at h
      simp only at h
      split at h
      · rename_i h2
        exact ⟨m, by omega, h2, by simpa using h.symm⟩
      · simp at h
theorem rowAns_none : ∀ {m : Nat}, rowAns la lb x m = none → ∀ e, e < m → oneB (stp la lb x.p e) = false
  | 0, _, e, h => absurd h (Nat.not_lt_zero _)
  | m + 1, h, e, he => by
    rw [rowAns] at h
    cases h1 : rowAns la lb x m with
    | some v => rw [h1] at h; simp at h
    | none =>
      rw [h1] at h
      simp only at h
      split at h
      · simp at h
      · rename_i h2
        rcases Nat.lt_or_ge e m with h3 | h3
        · exact rowAns_none h1 e h3
        · obtain rfl : e = m := by omega
          simpa using h2
theorem apAns_some {w : List Int} : ∀ {i : Nat}, apAns la lb n s i = some w → ∃ j x, (apTo la lb n s j)[j]? = some x ∧ rowAns la lb x n = some w
  | 0, h => by simp [apAns] at h
  | i + 1, h => by
    rw [apAns] at h
    cases h1 : apAns la lb n s i with
    | some v =>
      rw [h1] at h
      have : v = w := by simpa using h
      subst this
      exact apAns_some h1
    | none =>
      rw [h1] at h
      obtain ⟨x, hx, h2⟩ := Option.bind_eq_some_iff.1 h
      exact ⟨i, x, hx, h2⟩
theorem apRow_closed : ∀ {m : Nat}, (∀ e, e < m → oneB (stp la lb x.p e) = false) → ∀ e, e < m → (stp la lb x.p e).1 < 0 ∨ stp la lb x.p e ∈ (apRow la lb x l m).map (·.p)
  | 0, _, e, h => absurd h (Nat.not_lt_zero _)
  | m + 1, h, e, he => by
    have hsub : ∀ y, y ∈ (apRow la lb x l m).map (·.p) → y ∈ (apRow la lb x l (m + 1)).map (·.p) := fun y hy => by
      simp only [apRow]
      split
      · exact hy
      · rw [List.map_append]; exact List.mem_append_left _ hy
    rcases Nat.lt_or_ge e m with h3 | h3
    · rcases apRow_closed (fun e he => h e (by omega)) e h3 with h4 | h4
      · exact .inl h4
      · exact .inr (hsub _ h4)
    · obtain rfl : e = m := by omega
      simp only [apRow]
      split
      · rename_i hs
        rw [h e (by omega), Bool.false_or] at hs
        exact seen_iff.1 hs
      · exact .inr (by rw [List.map_append]; exact List.mem_append_right _ List.mem_cons_self)
theorem apTo_closed : ∀ {i : Nat}, apAns la lb n s i = none → ∀ j t, j < i → (apTo la lb n s i)[j]? = some t → ∀ e, e < n → oneB (stp la lb t.p e) = false ∧ ((stp la lb t.p e).1 < 0 ∨ stp la lb t.p e ∈ (apTo la lb n s i).map (·.p))
  | 0, _, j, _, hj, _ => absurd hj (Nat.not_lt_zero _)
  | i + 1, h, j, t, hj, ht => by
    rw [apAns] at h
    cases h1 : apAns la lb n s i with
    | some v => rw [h1] at h; simp at h
    | none =>
      rw [h1] at h
      simp only at h
      cases hx : (apTo la lb n s i)[i]? with
      | none =>
        rw [apTo_stop hx] at ht ⊢
        have hji : j < i := by
          have h3 := (List.getElem?_eq_some_iff.1 ht).1
          rw [List.getElem?_eq_none_iff] at hx
          omega
        exact apTo_closed h1 j t hji ht
      | some x =>
        rw [hx] at h
        have hrow : rowAns la lb x n = none := h
        have hil := (List.getElem?_eq_some_iff.1 hx).1
        rw [apTo_step hx] at ht ⊢
        obtain ⟨r, hr⟩ := apRow_pre (la := la) (lb := lb) (x := x) (l := apTo la lb n s i) (e := n)
        have ht2 : (apTo la lb n s i)[j]? = some t := by
          rw [hr, List.getElem?_append_left (by omega)] at ht
          exact ht
        intro e he
        rcases Nat.lt_or_ge j i with h3 | h3
        · obtain ⟨h4, h5⟩ := apTo_closed h1 j t h3 ht2 e he
          refine ⟨h4, h5.imp id fun h5 => ?_⟩
          rw [hr, List.map_append]
          exact List.mem_append_left _ h5
        · obtain rfl : j = i := by omega
          rw [hx] at ht2
          obtain rfl : x = t := by simpa using ht2
          exact ⟨rowAns_none hrow e he, apRow_closed (rowAns_none hrow) e he⟩
/-- Fewer pairs than states times states. -/
theorem apTo_le2 {sa sb : Int} (ha : specOk n sa la = true) (hb : specOk n sb lb = true) (hs : domB la lb s) (i : Nat) : (apTo la lb n s i).length ≤ la.length * lb.length := by
  have hn := (apTo_chain (la := la) (lb := lb) (n := n) (s := s) i).nd
  have hd := apTo_dom ha hb hs i
  let f : Int × Int → Nat := fun x => x.1.toNat * lb.length + x.2.toNat
  have h2 : (((apTo la lb n s i).map (·.p)).map f).Nodup := by
    refine List.Pairwise.map _ ?_ (List.Pairwise.imp_of_mem (R := fun a b => a ≠ b) (S := fun a b => f a ≠ f b) ?_ hn)
    · exact fun a b h => h
    · intro a b ha hb hne he
      obtain ⟨t, ht, rfl⟩ := List.mem_map.1 ha
      obtain ⟨u, hu, rfl⟩ := List.mem_map.1 hb
      obtain ⟨⟨a1, a2⟩, a3, a4⟩ := hd t ht
      obtain ⟨⟨b1, b2⟩, b3, b4⟩ := hd u hu
      obtain ⟨e1, e2⟩ := code_inj (v := lb.length) (by omega) (by omega) he
      exact hne (Prod.ext (by omega) (by omega))
  have h3 := h2.length_le_of_subset (l₂ := List.range (la.length * lb.length)) (fun x hx => by
    obtain ⟨a, ha, rfl⟩ := List.mem_map.1 hx
    obtain ⟨t, ht, rfl⟩ := List.mem_map.1 ha
    obtain ⟨⟨a1, a2⟩, a3, a4⟩ := hd t ht
    exact List.mem_range.2 (code_lt (by omega) (by omega)))
  simpa using h3
theorem ap_lq {sa sb : Int} (ha : specOk n sa la = true) (hb : specOk n sb lb = true) (h : apAns la lb n (sa, sb) (pairs la lb) = none) : Lq n (stepS la) (stepS lb) sa sb := by
  have hs : domB la lb (sa, sb) := ⟨(spec_table ha).2.1, (spec_table hb).2.1⟩
  have hle := apTo_le ha hb hs (pairs la lb)
  have hdom := apTo_dom ha hb hs (pairs la lb)
  refine Lq.of_rel (fun p q => ∃ t ∈ apTo la lb n (sa, sb) (pairs la lb), t.p = (p, q)) ?_ ⟨_, (apTo_chain _).hr, rfl⟩
  rintro p q e ⟨t, ht, htp⟩ he
  obtain ⟨j, hj, hjt⟩ := List.getElem_of_mem ht
  obtain ⟨h1, h2⟩ := apTo_closed h j t (by omega) (by rw [List.getElem?_eq_getElem hj, hjt]) e he
  have hd := hdom t ht
  rw [htp] at h1 h2 hd
  have hp0 := hd.1.1
  have hq0 := hd.2.1
  have e1 : stp la lb (p, q) e = (stepAt la p e, stepAt lb q e) := by
    unfold stp; rw [nextB_pos hp0, nextB_pos hq0]
  rw [e1] at h1 h2
  unfold oneB at h1
  have h3 : decide (stepAt la p e < 0) = decide (stepAt lb q e < 0) := by simpa using h1
  rw [decide_eq_decide] at h3
  refine ⟨by simp only [stepS]; rw [decide_eq_decide]; omega, fun ho => ?_⟩
  simp only [stepS, decide_eq_true_eq] at ho ⊢
  rcases h2 with h2 | h2
  · exact absurd h2 (by show ¬ stepAt la p e < 0; omega)
  · obtain ⟨u, hu, hup⟩ := List.mem_map.1 h2
    exact ⟨u, hu, hup⟩
theorem ap_found {sa sb : Int} (ha : specOk n sa la = true) (hb : specOk n sb lb = true) {w : List Int} (h : apAns la lb n (sa, sb) (pairs la lb) = some w) :
    w.length ≤ 4096 ∧ (∀ v ∈ w, 0 ≤ v ∧ v < (n : Int)) ∧ oneB ((readFrom la sa 0 w).1, (readFrom lb sb 0 w).1) = true := by
  have hs : domB la lb (sa, sb) := ⟨(spec_table ha).2.1, (spec_table hb).2.1⟩
  obtain ⟨j, x, hx, hr⟩ := apAns_some h
  obtain ⟨e, he, h1, rfl⟩ := rowAns_some hr
  have hm := List.mem_of_getElem? hx
  have hl := leads_nxt ha hb (apTo_dom ha hb hs j x hm) (apTo_leads ha hb hs j x hm) he
  obtain ⟨h2, h3, h4⟩ := hl
  refine ⟨?_, h4, ?_⟩
  · have h5 := apTo_wd j x hm
    have h6 := (List.getElem?_eq_some_iff.1 hx).1
    have h7 := apTo_le2 ha hb hs j
    have h8 := Nat.mul_le_mul (spec_table ha).2.2.2.2.2 (spec_table hb).2.2.2.2.2
    rw [List.length_append, List.length_singleton]
    omega
  · rw [show (x.wd ++ [(e : Int)]) = (nxt la lb x e).wd from rfl, h2, h3]
    exact h1
end
theorem equal_none {n : Nat} {sa sb : Int} {la lb : List (List Int)} (ha : specOk n sa la = true) (hb : specOk n sb lb = true) (h : apAns la lb n (sa, sb) (pairs la lb) = none) : leastRows n sa la = leastRows n sb lb := by
  have h1 := (leastRows_is ha).1
  have h2 := (leastRows_is hb).1
  rw [Int.toNat_natCast] at h1 h2
  exact h1.unique h2 (ap_lq ha hb h)
theorem equal_some {n : Nat} {sa sb : Int} {la lb : List (List Int)} (ha : specOk n sa la = true) (hb : specOk n sb lb = true) {w : List Int} (h : apAns la lb n (sa, sb) (pairs la lb) = some w) :
    leastRows n sa la ≠ leastRows n sb lb ∧ readVal n sa la w = ((readFrom la sa 0 w).1, ((readFrom la sa 0 w).2 : Int), 0) ∧ readVal n sb lb w = ((readFrom lb sb 0 w).1, ((readFrom lb sb 0 w).2 : Int), 0) ∧ oneB ((readFrom la sa 0 w).1, (readFrom lb sb 0 w).1) = true := by
  obtain ⟨h1, h2, h3⟩ := ap_found ha hb h
  have hev : ∀ v ∈ w, evBad n v = false := fun v hv => by
    have := h2 v hv
    simp only [evBad, Bool.or_eq_false_iff, decide_eq_false_iff_not]
    omega
  have hany : w.any (evBad n) = false := by
    rw [List.any_eq_false]
    exact fun v hv => by rw [hev v hv]; simp
  refine ⟨fun he => ?_, ?_, ?_, h3⟩
  · have k1 := isLeast_lq (leastRows_is ha).1
    have k2 := isLeast_lq (leastRows_is hb).1
    rw [he] at k1
    have k3 := k1.symm.trans k2
    have k4 := k3 (w.map Int.toNat) (fun e he => by
      obtain ⟨v, hv, rfl⟩ := List.mem_map.1 he
      have := h2 v hv
      omega)
    rw [← read_acc w sa 0 (spec_table ha).2.1.1 hev, ← read_acc w sb 0 (spec_table hb).2.1.1 hev, dge_not, dge_not] at k4
    unfold oneB at h3
    simp only at h3
    generalize decide ((readFrom la sa 0 w).1 < 0) = b1 at *
    generalize decide ((readFrom lb sb 0 w).1 < 0) = b2 at *
    cases b1 <;> cases b2 <;> simp at h3 k4
  · unfold readVal
    rw [ha, if_neg (by simp), if_neg (by omega), hany, if_neg (by simp)]
  · unfold readVal
    rw [hb, if_neg (by simp), if_neg (by omega), hany, if_neg (by simp)]
end Go.Proofs.Ytmphigeefppfpaa.H
namespace Go.Proofs.Ytmphigeefppfpaa.H
open Go.RowKit Go.Proofs.YtmphigeefppfpaaW.PrintWords Go.Proofs.YtmphigeefppfpaaW.PrintLast Go.Proofs.YtmphigeefppfpaaW.PrintMore
set_option linter.unusedVariables false
/-- A word, whether there is one, an error. -/
def ApEnd (a : Option (List Int)) (err : Int) (w : World) (E : Ending) (w' : World) : Prop :=
  ∃ (A : Option Addr) (c : Nat), (a.getD []).length ≤ c ∧ E = .returned (.tuple #[.slice A (a.getD []).length c, .bool a.isSome, .int .i64 err]) ∧ Kd.C (Kd.int .i64) w' A (a.getD []).length (a.getD []) ∧ Below w.heap.size w w'
def apVal (ea sa : Int) (la : List (List Int)) (eb sb : Int) (lb : List (List Int)) : Option (List Int) := if pairVal ea sa la eb sb lb = 0 then apAns la lb ea.toNat (sa, sb) (pairs la lb) else none
theorem C_nil (w : World) : Kd.C (Kd.int .i64) w none 0 [] := (Kd.R_reads' (Kd.R_nil (Kd.int .i64) 3 w 0 (fun _ => True))).2.2
end Go.Proofs.Ytmphigeefppfpaa.H
namespace Go.Proofs.Ytmphigeefppfpaa.H
open Go.RowKit Go.Proofs.YtmphigeefppfpaaW.PrintWords Go.Proofs.YtmphigeefppfpaaW.PrintLast Go.Proofs.YtmphigeefppfpaaW.PrintMore
set_option linter.unusedVariables false
/-- k numbers from each end have changed their places. -/
def RevTo (xs cur : List Int) (k : Nat) : Prop := cur.length = xs.length ∧ ∀ p, p < xs.length → cur.getD p 0 = if p < k ∨ xs.length - k ≤ p then xs.getD (xs.length - 1 - p) 0 else xs.getD p 0
theorem RevTo.start (xs : List Int) : RevTo xs xs 0 := ⟨rfl, fun p hp => by rw [if_neg (by omega)]⟩
theorem RevTo.end_ {xs cur : List Int} {k : Nat} (h : RevTo xs cur k) (hk : xs.length ≤ 2 * k + 1) : cur = xs.reverse := by
  refine List.ext_getElem (by rw [h.1, List.length_reverse]) fun p h1 h2 => ?_
  have h3 : p < xs.length := by rw [← h.1]; exact h1
  have h4 := h.2 p h3
  rw [List.getElem_reverse]
  rw [List.getD_eq_getElem?_getD, List.getElem?_eq_getElem h1, Option.getD_some] at h4
  rw [h4]
  split
  · rw [List.getD_eq_getElem?_getD, List.getElem?_eq_getElem (by omega), Option.getD_some]
  · have : p = xs.length - 1 - p := by omega
    rw [List.getD_eq_getElem?_getD, List.getElem?_eq_getElem (by omega), Option.getD_some]
    congr 1
theorem RevTo.step {xs cur : List Int} {k : Nat} (h : RevTo xs cur k) (hk : 2 * k + 1 < xs.length) : RevTo xs ((cur.set k (cur.getD (xs.length - 1 - k) 0)).set (xs.length - 1 - k) (cur.getD k 0)) (k + 1) := by
  refine ⟨by rw [List.length_set, List.length_set, h.1], fun p hp => ?_⟩
  have hk0 := h.2 k (by omega)
  have hk1 := h.2 (xs.length - 1 - k) (by omega)
  have hp0 := h.2 p hp
  rw [if_neg (by omega)] at hk0 hk1
  rw [List.getD_eq_getElem?_getD, List.getElem?_set, List.getElem?_set]
  by_cases e1 : xs.length - 1 - k = p
  · rw [if_pos e1, List.length_set, h.1, if_pos (by omega), Option.getD_some, if_pos (by omega), hk0]
    congr 1; omega
  · rw [if_neg e1]
    by_cases e2 : k = p
    · rw [if_pos e2, h.1, if_pos (by omega), Option.getD_some, if_pos (by omega), hk1]
      congr 1; omega
    · rw [if_neg e2, ← List.getD_eq_getElem?_getD, hp0]
      by_cases e3 : p < k ∨ xs.length - k ≤ p
      · rw [if_pos e3, if_pos (by omega)]
      · rw [if_neg e3, if_neg (by omega)]
theorem grown_trans {W W1 W2 : World} {row : Option Nat} (h : W.grownBy W1 row) (h2 : W1.grownBy W2 row) : W.grownBy W2 row := ⟨h2.os.trans h.os, h2.tape.trans h.tape, h2.output.trans h.output, Nat.le_trans h.size h2.size, fun i hi hne => (h2.block i (Nat.lt_of_lt_of_le hi h.size) hne).trans (h.block i hi hne)⟩
def RevEnd (base : Nat) (S : Nat → Prop) (v : Value) (xs : List Int) (w : World) (E : Ending) (w' : World) : Prop := E = .returned (.tuple #[]) ∧ Kd.R (Kd.int .i64) 3 w' base S v xs.reverse ∧ w.grownBy w' v.ownBlock
set_option maxHeartbeats 2000000 in
theorem reverse_calls (base : Nat) (S : Nat → Prop) (A : Option Addr) (c : Nat) (xs : List Int) (w : World) (hr : Kd.R (Kd.int .i64) 3 w base S (.slice A xs.length c) xs) :
    Calls Try.prog 45 #[.slice A xs.length c] w (RevEnd base S (.slice A xs.length c) xs w) := by
  have HR := Aside0.mk hr
  have hm := (Kd.R_reads' hr).2.2.2.1
  clear hr
  by_cases h0 : xs.length = 0
  · have hx : xs = [] := List.eq_nil_of_length_eq_zero h0
    subst hx
    clear hm h0
    go_enter Try.func45, Try.ntmps45
    go_wp2
    go_loopg [2, 3] 0 (fun gg v2 v3 wi => v2 = .int .i64 0 ∧ v3 = .int .i64 (-1) ∧ w = wi)
    case atStart => exact ⟨rfl, rfl, rfl⟩
    case round =>
      obtain ⟨rfl, rfl, rfl⟩ := hrel
      go_wp2
      go_end0
      exact ⟨rfl, HR.out, World.grownBy.refl _ _⟩
  · obtain ⟨g, hg⟩ : ∃ g, A = some ⟨g, 0, none⟩ := by
      rcases (HR.out).2.choose_spec.1.2 with ⟨hv, hn⟩ | ⟨g, cap, cur, hv, _⟩
      · injection hv with h1 h2 _; omega
      · injection hv with h1 _ _; exact ⟨g, h1⟩
    subst hg
    have hn1 : 1 ≤ xs.length := by omega
    generalize hN : xs.length = N at *
    have HNN := Aside0.mk hN
    clear hN h0
    go_enter Try.func45, Try.ntmps45
    go_wp2
    go_loopg [2, 3] N (fun gg v2 v3 wi => ∃ (k : Nat) (j : Int) (cur : List Int), 2 * k ≤ N ∧ N - 2 * k ≤ gg ∧ v2 = .int .i64 k ∧ v3 = .int .i64 j ∧ -1 ≤ j ∧ j < N ∧ Aside0 (j = (N : Int) - 1 - k) ∧ Aside0 (RevTo xs cur k) ∧ Aside0 (Kd.R (Kd.int .i64) 3 wi base S (.slice (some ⟨g, 0, none⟩) N c) cur) ∧ Aside0 (w.grownBy wi (some g)))
    case atStart => exact ⟨0, (N : Int) - 1, xs, by omega, by omega, rfl, rfl, by omega, by omega, ⟨by omega⟩, ⟨RevTo.start xs⟩, HR, ⟨World.grownBy.refl _ _⟩⟩
    case round =>
      clear HR
      obtain ⟨k, j, cur, hk, hgg, rfl, rfl, hj0, hj1, HJ, HV, HR, HG⟩ := hrel
      by_cases hlt : (k : Int) < j
      · obtain ⟨m, rfl⟩ : ∃ m : Nat, j = (m : Int) := ⟨j.toNat, by omega⟩
        have hkN : (k : Int) < (N : Int) := by omega
        obtain ⟨hc1, hf1⟩ := Kd.R_celln 0 HR.out (k : Int) (by omega) (by omega)
        obtain ⟨hc2, hf2⟩ := Kd.R_celln 0 HR.out (m : Int) (by omega) (by omega)
        rw [Int.toNat_natCast] at hc1 hf1 hc2 hf2
        have hne : k ≠ m := by omega
        go_wp2
        go_region
        go_wp2
        go_roundg (N - 2 * (k + 1))
        case measure => have := (HJ.out); omega
        case rel =>
          have hJ := HJ.out
          have hN := HNN.out
          have P1 := Kd.R_putg HR.out (k : Int) (rdOf 0 cur (m : Int))
          have P2 := Kd.R_putg P1.1 (m : Int) (rdOf 0 cur (k : Int))
          rw [Int.toNat_natCast] at P1
          rw [Int.toNat_natCast, Int.toNat_natCast] at P2
          have hs := (HV.out).step (by omega)
          rw [show xs.length - 1 - k = m from by omega] at hs
          refine ⟨k + 1, (m : Int) - 1, _, by omega, by omega, by go_num, rfl, by omega, by omega, ⟨by omega⟩, ⟨hs⟩, ⟨Kd.R_drew P2.1⟩, ⟨?_⟩⟩
          have hd := grown_of_below (below_drew (Below.refl _ (((wr.setCell ⟨g, k, none⟩ (.int .i64 (rdOf 0 cur (m : Int)))).setCell ⟨g, m, none⟩ (.int .i64 (rdOf 0 cur (k : Int))))))) (some g)
          exact grown_trans (grown_trans HG.out P1.2) (grown_trans P2.2 hd)
      · go_wp2
        go_end0
        refine ⟨rfl, ?_, HG.out⟩
        have hN := HNN.out
        have hJ := HJ.out
        have := (HV.out).end_ (by omega)
        rw [← this]
        exact HR.out
end Go.Proofs.Ytmphigeefppfpaa.H
namespace Go.Proofs.Ytmphigeefppfpaa.H
open Go.RowKit Go.Proofs.YtmphigeefppfpaaW.PrintWords Go.Proofs.YtmphigeefppfpaaW.PrintLast Go.Proofs.YtmphigeefppfpaaW.PrintMore
set_option linter.unusedVariables false
def encY (v : (Int × Int) × Int) : Value := .agg #[.int .i64 v.1.1, .int .i64 v.1.2, .int .i64 v.2]
theorem zero58 (w : World) : (zeroValue 58).run Try.prog w = .ok (.agg #[.int .i64 0, .int .i64 0, .int .i64 0]) w := by kernel_rfl
theorem part2 (a b : Int) (w : World) : (part 3 #[.int .i64 a, .int .i64 b] 0).run Try.prog w = .ok (.int .i64 a) w ∧ (part 3 #[.int .i64 a, .int .i64 b] 1).run Try.prog w = .ok (.int .i64 b) w := ⟨by kernel_rfl, by kernel_rfl⟩
theorem eq56 (a b c e : Int) (w : World) : (Op.equalIn 10000 56 (.agg #[.int .i64 a, .int .i64 b]) (.agg #[.int .i64 c, .int .i64 e])).run Try.prog w = .ok (a == c && b == e) w := by
  obtain ⟨i0, hi0, _, hsz, _⟩ := info_parts info3
  rw [show (10000 : Nat) = 9998 + 1 + 1 from rfl, run_equalIn_array w (9998 + 1) _ _ Try.underlying56 hi0]
  have hc : Try.prog.cellsOf 3 = 1 := by kernel_rfl
  have p1 := part2 a b w
  have p2 := part2 c e w
  have k1 : (Op.equalIn 9999 3 (.int .i64 a) (.int .i64 c)).run Try.prog w = .ok (a == c) w := run_equalIn_int (P := Try.prog) w 9998 3 .i64 .i64 a c Try.underlying3
  have k2 : (Op.equalIn 9999 3 (.int .i64 b) (.int .i64 e)).run Try.prog w = .ok (b == e) w := run_equalIn_int (P := Try.prog) w 9998 3 .i64 .i64 b e Try.underlying3
  rw [show List.range 2 = [0, 1] from rfl, show (9998 + 1 : Nat) = 9999 from rfl, hc]
  cases h1 : (a == c)
  · rw [h1] at k1
    simp [Op.eqItems, Sem.run_bind, p1.1, p2.1, k1]
  · rw [h1] at k1
    cases h2 : (b == e)
    · rw [h2] at k2
      simp [Op.eqItems, Sem.run_bind, p1.1, p1.2, p2.1, p2.2, k1, k2]
    · rw [h2] at k2
      simp [Op.eqItems, Sem.run_bind, p1.1, p1.2, p2.1, p2.2, k1, k2]
theorem field58 (a b c : Int) (w : World) : (Instr.field 58 (.agg #[.int .i64 a, .int .i64 b, .int .i64 c]) 1).run Try.prog w = .ok (.int .i64 c) w ∧ (Instr.field 58 (.agg #[.int .i64 a, .int .i64 b, .int .i64 c]) 0).run Try.prog w = .ok (.agg #[.int .i64 a, .int .i64 b]) w := ⟨by kernel_rfl, by kernel_rfl⟩
/-- The first of the queue. -/
theorem kP_head {W : World} {base : Nat} {ok : Nat → Prop} {v : Value} {x : Int × Int} {xs : List (Int × Int)} (h : kP.Q 56 W base ok v (x :: xs)) : ∃ g o c, v = .slice (some ⟨g, o, none⟩) (xs.length + 1) c ∧ W.cell? ⟨g, o, none⟩ = some (.int .i64 x.1) ∧ W.cell? ⟨g, o + 1, none⟩ = some (.int .i64 x.2) := by
  obtain ⟨g, o, c, rfl, _⟩ := Kd.Q_form h (by simp)
  obtain ⟨cs, hc, hM, hcc, _⟩ := Kd.Q_elem h (0, 0) 0 (by omega) (by simp)
  simp only [Int.toNat_zero, List.getD_cons_zero, Nat.zero_mul, Nat.add_zero] at hM hcc
  obtain ⟨c0, c1, rfl, h0, h1⟩ := hM
  have e0 : c0 = [.int .i64 x.1] := h0
  have e1 : c1 = [.int .i64 x.2] := h1
  subst e0; subst e1
  exact ⟨g, o, c, rfl, hcc 0 _ rfl, hcc 1 _ rfl⟩
/-- The queue without its first. -/
theorem kP_tail {W : World} {base : Nat} {ok : Nat → Prop} {A : Option Addr} {n c : Nat} {x : Int × Int} {xs : List (Int × Int)} (h : kP.Q 56 W base ok (.slice A n c) (x :: xs)) :
    ∃ A1 c1, (∀ W' : World, (Instr.slice 60 (.slice A n c) (some (.int .i64 1)) none none).run Try.prog W' = .ok (.slice A1 xs.length c1) W') ∧ kP.Q 56 W base ok (.slice A1 xs.length c1) xs := by
  obtain ⟨i0, hi0, _, hsz, _⟩ := info_parts info56
  have hn := (Kd.Q_reads' h).1
  have hcut := cut_from (P := Try.prog) 60 56 .i64 Try.underlying60 hi0 2 hsz A n c 1 (by omega) (by rw [hn, List.length_cons]; omega)
  have hr := Kd.Q_drop (k := 1) h (by simp)
  have hl : n - 1 = xs.length := by rw [hn]; simp
  refine ⟨if c = 1 then A else A.map (·.add (1 * 2)), c - 1, fun W' => ?_, ?_⟩
  · rw [hcut W']
    simp only [show ((1 : Int).toNat) = 1 from rfl, hl]
  · rw [← hl]
    exact hr
structure SA (w W : World) (va vb : Array Value) (MB : Nat) (bs : List (Nat × (Int × Int))) (qv : Value) (Sq : Nat → Prop) (q : List (Int × Int)) (es : List ((Int × Int) × ((Int × Int) × Int))) : Prop where
  hb : Below w.heap.size w W
  ha : W.heap[w.heap.size]? = some (.cells va 24 (0, 0))
  hbb : W.heap[w.heap.size + 1]? = some (.cells vb 24 (0, 0))
  hM : MapIs W MB encP encY domP es
  hMB : w.heap.size ≤ MB
  hQ : kP.Q 56 W w.heap.size Sq qv q
  hbs : ∀ p ∈ bs, W.heap[p.1]? = some (.cells #[.int .i64 p.2.1, .int .i64 p.2.2] 56 (0, 0)) ∧ ¬ Sq p.1 ∧ w.heap.size ≤ p.1
section
variable {w W W1 : World} {va vb : Array Value} {MB : Nat} {bs bs1 : List (Nat × (Int × Int))} {qv qv1 : Value} {Sq Sq1 : Nat → Prop} {q q1 : List (Int × Int)} {es es1 : List ((Int × Int) × ((Int × Int) × Int))}
theorem SA.below (h : SA w W va vb MB bs qv Sq q es) (hb : Below W.heap.size W W1) : SA w W1 va vb MB bs qv Sq q es :=
  ⟨below_then h.hb h.hb.size hb, blk_below h.ha hb, blk_below h.hbb hb, h.hM.below hb, h.hMB, Kd.Q_below h.hQ hb, fun p hp => ⟨blk_below (h.hbs p hp).1 hb, (h.hbs p hp).2⟩⟩
theorem SA.bound2 (h : SA w W va vb MB bs qv Sq q es) : ∃ Sq1 : Nat → Prop, Aside0 (SA w W va vb MB bs qv Sq1 q es) ∧ Aside0 (∀ k, Sq1 k → k < W.heap.size) ∧ Aside0 (∀ k, Sq1 k → Sq k) :=
  ⟨_, ⟨⟨h.hb, h.ha, h.hbb, h.hM, h.hMB, Kd.Q_mono (Kd.Q_bound h.hQ) (fun k hk => (⟨hk.1, hk.2.2.1⟩ : Sq k ∧ k < W.heap.size)), fun p hp => ⟨(h.hbs p hp).1, fun hk => (h.hbs p hp).2.1 hk.1, (h.hbs p hp).2.2⟩⟩⟩, ⟨fun k hk => hk.2⟩, ⟨fun k hk => hk.1⟩⟩
theorem SA.cons (h : SA w W va vb MB bs qv Sq q es) {b : Nat} {x : Int × Int} (hx : W.heap[b]? = some (.cells #[.int .i64 x.1, .int .i64 x.2] 56 (0, 0))) (hS : ¬ Sq b) (hb : w.heap.size ≤ b) : SA w W va vb MB ((b, x) :: bs) qv Sq q es :=
  ⟨h.hb, h.ha, h.hbb, h.hM, h.hMB, h.hQ, fun p hp => by
    rcases List.mem_cons.1 hp with rfl | hp
    · exact ⟨hx, hS, hb⟩
    · exact h.hbs p hp⟩
theorem SA.less (h : SA w W va vb MB bs qv Sq q es) (hs : ∀ p ∈ bs1, p ∈ bs) : SA w W va vb MB bs1 qv Sq q es := ⟨h.hb, h.ha, h.hbb, h.hM, h.hMB, h.hQ, fun p hp => h.hbs p (hs p hp)⟩
/-- Another block is written. -/
theorem SA.other {xb : Nat} {cells : Array Value} {T : TypeId} (h : SA w W va vb MB bs qv Sq q es) (hx : W.heap[xb]? = some (.cells cells T (0, 0))) (hT : T ≠ 24) (hb : w.heap.size ≤ xb) (h1 : ¬ Sq xb) (h2 : ∀ p ∈ bs, p.1 ≠ xb) (hg : W.grownBy W1 (some xb)) : SA w W1 va vb MB bs qv Sq q es :=
  ⟨pw_below_grown h.hb _ h.hb.size hg (fun k hk => by cases hk; exact hb), blk_grown h.ha hg (fun e => by injection e with e; exact blk_ne h.ha hx (Ne.symm hT) e), blk_grown h.hbb hg (fun e => by injection e with e; exact blk_ne h.hbb hx (Ne.symm hT) e),
    h.hM.grown hg (fun e => by injection e with e; exact h.hM.ne_row hx e.symm), h.hMB, Kd.Q_grown h.hQ hg (fun k hk e => by injection e with e; exact h1 (e ▸ hk)), fun p hp => ⟨blk_grown (h.hbs p hp).1 hg (fun e => by injection e with e; exact h2 p hp e), (h.hbs p hp).2⟩⟩
theorem grown2 (W : World) (b : Nat) (u v : Value) : W.grownBy ((W.setCell ⟨b, 0, none⟩ u).setCell ⟨b, 1, none⟩ v) (some b) := grown_trans (grown_setCell W ⟨b, 0, none⟩ u) (grown_setCell _ ⟨b, 1, none⟩ v)
theorem SA.put2 {yb : Nat} {a0 b0 : Value} (h : SA w W va vb MB bs qv Sq q es) (hx : W.heap[yb]? = some (.cells #[a0, b0] 56 (0, 0))) (hb : w.heap.size ≤ yb) (h1 : ¬ Sq yb) (h2 : ∀ p ∈ bs, p.1 ≠ yb) (y : Int × Int) :
    SA w ((W.setCell ⟨yb, 0, none⟩ (.int .i64 y.1)).setCell ⟨yb, 1, none⟩ (.int .i64 y.2)) va vb MB ((yb, y) :: bs) qv Sq q es :=
  (h.other hx (by decide) hb h1 h2 (grown2 W yb _ _)).cons (blk_set (blk_set hx 0 _) 1 _) h1 hb
theorem SA.cell (h : SA w W va vb MB bs qv Sq q es) {b : Nat} {x : Int × Int} (hp : (b, x) ∈ bs) : (W.cell? ⟨b, 0, none⟩ = some (.int .i64 x.1) ∧ W.cell? ⟨b, 1, none⟩ = some (.int .i64 x.2)) ∧ W.frozen? ⟨b, 0, none⟩ = false ∧ W.frozen? ⟨b, 1, none⟩ = false :=
  ⟨⟨(blk_cell (h.hbs _ hp).1 0).trans rfl, (blk_cell (h.hbs _ hp).1 1).trans rfl⟩, blk_frozen (h.hbs _ hp).1 0, blk_frozen (h.hbs _ hp).1 1⟩
theorem SA.map (h : SA w W va vb MB bs qv Sq q es) (hm : MapIs W1 MB encP encY domP es1) (hg : W.grownBy W1 (some MB)) : SA w W1 va vb MB bs qv Sq q es1 := by
  have hne : ∀ {b : Nat} {cs : Array Value} {T : TypeId}, W.heap[b]? = some (.cells cs T (0, 0)) → some b ≠ some MB := fun hb e => by injection e with e; exact h.hM.ne_row hb e
  exact ⟨pw_below_grown h.hb _ h.hb.size hg (fun k hk => by cases hk; exact h.hMB), blk_grown h.ha hg (hne h.ha), blk_grown h.hbb hg (hne h.hbb), hm, h.hMB,
    Kd.Q_mono (Kd.Q_grown (Kd.Q_bound h.hQ) hg (fun k hk => by obtain ⟨_, _, _, _, _, cells, hc⟩ := hk; exact hne hc)) (fun k hk => hk.1), fun p hp => ⟨blk_grown (h.hbs p hp).1 hg (hne (h.hbs p hp).1), (h.hbs p hp).2⟩⟩
theorem SA.tail (h : SA w W va vb MB bs qv Sq q es) (hq : kP.Q 56 W w.heap.size Sq qv1 q1) : SA w W va vb MB bs qv1 Sq q1 es := ⟨h.hb, h.ha, h.hbb, h.hM, h.hMB, hq, h.hbs⟩
theorem SA.appQ (h : SA w W va vb MB bs qv Sq q es) (hq : kP.Q 56 W1 w.heap.size (fun k => Sq k ∨ W.heap.size ≤ k) qv1 q1) (hg : W.grownBy W1 qv.ownBlock) : SA w W1 va vb MB bs qv1 (fun k => Sq k ∨ W.heap.size ≤ k) q1 es := by
  have hty : ∀ k, qv.ownBlock = some k → ∃ cells, W.heap[k]? = some (.cells cells 56 (0, 0)) := Kd.Q_typed h.hQ
  refine ⟨pw_below_grown h.hb _ h.hb.size hg (Kd.Q_base h.hQ), blk_grown h.ha hg (fun e => ?_), blk_grown h.hbb hg (fun e => ?_), h.hM.grown hg (fun e => ?_), h.hMB, hq, fun p hp => ⟨blk_grown (h.hbs p hp).1 hg (fun e => (h.hbs p hp).2.1 (h.hQ.1 _ e.symm)), fun hk => ?_, (h.hbs p hp).2.2⟩⟩
  · obtain ⟨cells, hc⟩ := hty _ e.symm
    exact blk_ne h.ha hc (by decide) rfl
  · obtain ⟨cells, hc⟩ := hty _ e.symm
    exact blk_ne h.hbb hc (by decide) rfl
  · obtain ⟨cells, hc⟩ := hty _ e.symm
    exact h.hM.ne_row hc rfl
  · rcases hk with hk | hk
    · exact (h.hbs p hp).2.1 hk
    · have := (Array.getElem?_eq_some_iff.1 (h.hbs p hp).1).1
      omega
/-- What region 13 reads. -/
theorem SA.held {a b c d e f : Value} {xb : Nat} {x : Int × Int} (h : SA w W #[a, b, c] #[d, e, f] MB bs qv Sq q es) (hp : (xb, x) ∈ bs) :
    ((W.cell? ⟨w.heap.size, 0, none⟩ = some a ∧ W.cell? ⟨w.heap.size, 1, none⟩ = some b ∧ W.cell? ⟨w.heap.size, 2, none⟩ = some c) ∧ (W.cell? ⟨w.heap.size + 1, 0, none⟩ = some d ∧ W.cell? ⟨w.heap.size + 1, 1, none⟩ = some e ∧ W.cell? ⟨w.heap.size + 1, 2, none⟩ = some f)) ∧
    (W.cell? ⟨xb, 0, none⟩ = some (.int .i64 x.1) ∧ W.cell? ⟨xb, 1, none⟩ = some (.int .i64 x.2)) :=
  ⟨⟨box_cells h.ha, box_cells h.hbb⟩, (h.cell hp).1⟩
/-- A row of numbers of the call's own grows. -/
theorem SA.row {S : Nat → Prop} {v : Value} {xs : List Int} (h : SA w W va vb MB bs qv Sq q es) (hr : Kd.R (Kd.int .i64) 3 W w.heap.size S v xs) (hg : W.grownBy W1 v.ownBlock) : SA w W1 va vb MB bs qv Sq q es := by
  have hty : ∀ k, v.ownBlock = some k → ∃ cells, W.heap[k]? = some (.cells cells 3 (0, 0)) := fun k hk => Kd.R_typed hr k hk
  have hne : ∀ {b : Nat} {cs : Array Value} {T : TypeId}, W.heap[b]? = some (.cells cs T (0, 0)) → T ≠ 3 → some b ≠ v.ownBlock := fun hb hT e => by
    obtain ⟨cells, hc⟩ := hty _ e.symm
    exact blk_ne hb hc hT rfl
  refine ⟨pw_below_grown h.hb _ h.hb.size hg (Kd.R_base hr), blk_grown h.ha hg (hne h.ha (by decide)), blk_grown h.hbb hg (hne h.hbb (by decide)), h.hM.grown hg (fun e => ?_), h.hMB, ?_, fun p hp => ⟨blk_grown (h.hbs p hp).1 hg (hne (h.hbs p hp).1 (by decide)), (h.hbs p hp).2⟩⟩
  · obtain ⟨cells, hc⟩ := hty _ e.symm
    exact h.hM.ne_row hc rfl
  · exact Kd.Q_mono (Kd.Q_grown (Kd.Q_bound h.hQ) hg (fun k hk => by
      obtain ⟨_, _, _, t, ht, cells, hc⟩ := hk
      refine hne hc ?_
      have : t = 56 := by simpa [kP, Kd.pair, Kd.int, Kd.scalar] using ht
      rw [this]; decide)) (fun k hk => hk.1)
end
end Go.Proofs.Ytmphigeefppfpaa.H
namespace Go.Proofs.Ytmphigeefppfpaa.H
open Go.RowKit Go.Proofs.YtmphigeefppfpaaW.PrintWords Go.Proofs.YtmphigeefppfpaaW.PrintLast Go.Proofs.YtmphigeefppfpaaW.PrintMore
set_option linter.unusedVariables false
theorem spec_domB {n : Nat} {sa sb : Int} {la lb : List (List Int)} (ha : specOk n sa la = true) (hb : specOk n sb lb = true) : domB la lb (sa, sb) := ⟨(spec_table ha).2.1, (spec_table hb).2.1⟩
end Go.Proofs.Ytmphigeefppfpaa.H
namespace Go.Proofs.Ytmphigeefppfpaa.H
open Go.RowKit Go.Proofs.YtmphigeefppfpaaW.PrintWords Go.Proofs.YtmphigeefppfpaaW.PrintLast Go.Proofs.YtmphigeefppfpaaW.PrintMore
set_option linter.unusedVariables false
theorem ents_snoc (L : List PT) (t : PT) : ents (L ++ [t]) = ents L ++ [(t.p, (t.par, t.ev))] := by simp [ents]
theorem mput_ents {L : List PT} {t : PT} (h : t.p ∉ L.map (·.p)) : mput t.p (t.par, t.ev) (ents L) = ents (L ++ [t]) := by
  rw [mput_new (by rw [ents_keys]; exact h), ents_snoc]
theorem ne_boxes {a b m k : Nat} (ha : a < m) (hb : b < m) (hk : m ≤ k) (x y : Int × Int) : ∀ p ∈ [(a, x), (b, y)], p.1 ≠ k := fun p hp => by
  simp only [List.mem_cons, List.not_mem_nil, or_false] at hp
  rcases hp with rfl | rfl
  · show a ≠ k; omega
  · show b ≠ k; omega
set_option maxHeartbeats 8000000 in
set_option maxRecDepth 100000 in
theorem sapart_calls (ea sa : Int) (A : Option Addr) (ca : Nat) (la : List (List Int)) (eb sb : Int) (B : Option Addr) (cb : Nat) (lb : List (List Int)) (w : World)
    (hra : Kd.C (Kd.slice 3 (Kd.int .i64)) w A la.length la) (hca : la.length ≤ ca) (hrb : Kd.C (Kd.slice 3 (Kd.int .i64)) w B lb.length lb) (hcb : lb.length ≤ cb) :
    Calls Try.prog 23 #[.agg #[.int .i64 ea, .int .i64 sa, .slice A la.length ca], .agg #[.int .i64 eb, .int .i64 sb, .slice B lb.length cb]] w (ApEnd (apVal ea sa la eb sb lb) (pairVal ea sa la eb sb lb) w) := by
  have H1 := Aside0.mk fun W (hW : Below w.heap.size w W) => pair_calls ea sa A ca la eb sb B cb lb W (Kd.C_below hra hW) (Kd.C_below hrb hW)
  have HA := Aside0.mk hra
  have HB := Aside0.mk hrb
  clear hra hrb
  by_cases hp : pairVal ea sa la eb sb lb = 0
  · obtain ⟨hsa, hsb, rfl⟩ := pairVal_zero hp
    have HV := Aside0.mk (show apVal ea sa la ea sb lb = apAns la lb ea.toNat (sa, sb) (pairs la lb) from if_pos hp)
    rw [hp] at H1 ⊢
    obtain ⟨_, _, he0, he1, _, hla⟩ := spec_table hsa
    obtain ⟨_, _, _, _, _, hlb⟩ := spec_table hsb
    obtain ⟨n, rfl⟩ : ∃ n : Nat, ea = (n : Int) := ⟨ea.toNat, by omega⟩
    rw [Int.toNat_natCast] at HV
    have hn : n ≤ 16 := by omega
    have hple := pairs_le hsa hsb
    have HLE := Aside0.mk (apTo_le hsa hsb (spec_domB hsa hsb))
    have HDM := Aside0.mk (apTo_dom hsa hsb (spec_domB hsa hsb))
    have HSTP := Aside0.mk fun (p : Int × Int) (e : Nat) (hp : domQ la lb p) (he : (e : Int) < n) => stp_dom hsa hsb hp he
    have HWF := Aside0.mk (show ∀ p : Int × Int, domQ la lb p → domP p from fun p hp => ⟨wf_small' hp.1.1 (by have := hp.1.2; omega), wf_small' hp.2.1 (by have := hp.2.2; omega)⟩)
    have HD0 := Aside0.mk (spec_domB hsa hsb)
    have HRD := Aside0.mk fun (x : PT) (l : List PT) (hl : ∀ t ∈ l, domB la lb t.p) (hx : domB la lb x.p) (e : Nat) (he : (e : Int) ≤ n) => apRow_dom hsa hsb hl hx e he
    have H2 := Aside0.mk fun W (hW : Below w.heap.size w W) (q e : Int) (hq : domN la q) (h0 : 0 ≤ e) (h1 : e < (n : Int)) => next_calls hsa hq h0 h1 A ca W (Kd.C_below HA.out hW) hca
    have H3 := Aside0.mk fun W (hW : Below w.heap.size w W) (q e : Int) (hq : domN lb q) (h0 : 0 ≤ e) (h1 : e < (n : Int)) => next_calls hsb hq h0 h1 B cb W (Kd.C_below HB.out hW) hcb
    generalize hN : pairs la lb = N at *
    generalize hAV : apVal n sa la n sb lb = av at *
    clear hp hsa hsb hla hlb hN he0 he1 hAV
    have hmm := @run_makeMap Try.prog
    go_enter Try.func23, Try.ntmps23
    go_upto_region 1 with (fail)
    have HS := two3_begin w #[.int .i64 n, .int .i64 sa, .slice A la.length ca] #[.int .i64 n, .int .i64 sb, .slice B lb.length cb]
    generalize ((w.alloc (.cells #[.int .i64 n, .int .i64 sa, .slice A la.length ca] 24)).alloc (.cells #[.int .i64 n, .int .i64 sb, .slice B lb.length cb] 24)) = w0 at *
    obtain ⟨⟨hc0, hc1, hc2⟩, hd0, hd1, hd2⟩ := two3_held HS
    go_wp2_with fail
    refine (H1.out _ (HS.1).out).mono ?_
    rintro E w1 ⟨rfl, hb⟩
    have HS1 := two3_keep hb HS
    clear hb HS hc0 hc1 hc2 hd0 hd1 hd2 H1
    obtain ⟨⟨hc0, hc1, hc2⟩, hd0, hd1, hd2⟩ := two3_held HS1
    go_upto_region 5 with (fail)
    have hB2 := below_alloc (Below.refl w1.heap.size w1) (.cells #[.int .i64 sa, .int .i64 sb] 56)
    have HS2 := two3_keep hB2 HS1
    have HX2 := Aside0.mk (blk_new w1 (.cells #[.int .i64 sa, .int .i64 sb] 56))
    have HU2 := Aside0.mk ((HS1.1).out).size
    clear HS1 hB2 hc0 hc1 hc2 hd0 hd1 hd2
    generalize (w1.alloc (.cells #[.int .i64 sa, .int .i64 sb] 56)) = w2 at *
    generalize w1.heap.size = sk at *
    obtain ⟨wm, hrun, HM0, hgm⟩ := MapIs.put (mapIs_new w2 encP encY domP) keyPair Try.underlying59 (HWF.out _ (HD0.out).q) ((0, 0), 0)
    have hrun' : (Instr.mapUpdate 59 (.map (some w2.heap.size)) (.agg #[.int .i64 sa, .int .i64 sb]) (.agg #[.int .i64 0, .int .i64 0, .int .i64 0])).run Try.prog (w2.alloc (.map #[] 0)) = .ok () wm := hrun
    clear hrun
    have hBm := below_alloc (Below.refl w2.heap.size w2) (.map #[] 0)
    have HS3 := two3_keep hBm HS2
    have hX3 := blk_below HX2.out hBm
    have hne : ∀ {b : Nat} {cs : Array Value} {T : TypeId}, (w2.alloc (.map #[] 0)).heap[b]? = some (.cells cs T (0, 0)) → some b ≠ some w2.heap.size := fun hb e => by injection e with e; exact MapIs.ne_row (mapIs_new w2 encP encY domP) hb e
    have HX4 := Aside0.mk (blk_grown hX3 hgm (hne hX3))
    have HA4 := Aside0.mk (blk_grown (HS3.2.1).out hgm (hne (HS3.2.1).out))
    have HB4 := Aside0.mk (blk_grown (HS3.2.2).out hgm (hne (HS3.2.2).out))
    have HW4 := Aside0.mk (pw_below_grown (HS3.1).out _ ((HS3.1).out).size hgm (fun k hk => by cases hk; exact ((HS2.1).out).size))
    have HMB := Aside0.mk ((HS2.1).out).size
    have HM0 := Aside0.mk HM0
    have hm0 : (w2.alloc (.map #[] 0)).cell? ⟨sk, 0, none⟩ = some (.int .i64 sa) := (blk_cell hX3 0).trans rfl
    have hm1 : (w2.alloc (.map #[] 0)).cell? ⟨sk, 1, none⟩ = some (.int .i64 sb) := (blk_cell hX3 1).trans rfl
    have hx0 : wm.cell? ⟨sk, 0, none⟩ = some (.int .i64 sa) := (blk_cell HX4.out 0).trans rfl
    have hx1 : wm.cell? ⟨sk, 1, none⟩ = some (.int .i64 sb) := (blk_cell HX4.out 1).trans rfl
    clear HX2 hX3 hBm hgm hne HS2 HS3
    go_upto_region 7 with (fail)
    generalize w2.heap.size = MB at *
    have HSA := Aside0.mk (SA.cons (SA.mk (w := w) (W := wm.alloc (.cells #[.int .i64 sa, .int .i64 sb] 56)) (va := #[.int .i64 n, .int .i64 sa, .slice A la.length ca]) (vb := #[.int .i64 n, .int .i64 sb, .slice B lb.length cb]) (MB := MB) (bs := []) (qv := .slice (some ⟨wm.heap.size, 0, none⟩) 1 1) (Sq := fun k => k = wm.heap.size) (q := [(sa, sb)]) (es := [((sa, sb), ((0, 0), 0))])
      (below_alloc HW4.out _) (blk_alloc HA4.out _) (blk_alloc HB4.out _) (HM0.out.below (below_alloc (Below.refl _ _) _)) HMB.out (Kd.Q_of_R (R_new1P wm (sa, sb) w.heap.size (HW4.out).size)) (fun p hp => absurd hp List.not_mem_nil)) (b := sk) (x := (sa, sb)) (blk_alloc HX4.out _) (fun h => by have := (Array.getElem?_eq_some_iff.1 HX4.out).1; omega) HU2.out)
    clear HW4 HA4 HB4 HM0 HX4 hm0 hm1 hx0 hx1 hrun' HMB HU2
    generalize (wm.alloc (.cells #[.int .i64 sa, .int .i64 sb] 56)) = w4 at *
    generalize (fun k => k = wm.heap.size) = Sq0 at *
    generalize wm.heap.size = qb at *
    go_loopg [10] N (fun gg v10 wi => ∃ (i : Nat) (Sq : Nat → Prop), i ≤ N ∧ N - i ≤ gg ∧ Aside0 (apAns la lb n (sa, sb) i = none) ∧
      Aside0 (SA w wi #[.int .i64 n, .int .i64 sa, .slice A la.length ca] #[.int .i64 n, .int .i64 sb, .slice B lb.length cb] MB [(sk, (sa, sb))] v10 Sq (((apTo la lb n (sa, sb) i).drop i).map (·.p)) (ents (apTo la lb n (sa, sb) i))))
    case atStart => exact ⟨0, _, by omega, by omega, ⟨rfl⟩, HSA⟩
    case round =>
      clear HSA
      obtain ⟨i, Sq, him, hgg, HNO, HSA⟩ := hrel
      have hsz := HLE.out i
      by_cases hlt : i < (apTo la lb n (sa, sb) i).length
      · have HXI := Aside0.mk (List.getElem?_eq_getElem hlt)
        have HST := Aside0.mk (apTo_step HXI.out)
        have HFD := Aside0.mk fun (wd : List Int) (h : rowAns la lb (apTo la lb n (sa, sb) i)[i] n = some wd) => apAns_found HNO.out HXI.out h
        have HNX := Aside0.mk fun (h : rowAns la lb (apTo la lb n (sa, sb) i)[i] n = none) => apAns_next HNO.out HXI.out h
        have HXD := Aside0.mk (HDM.out i _ (List.getElem_mem hlt))
        have HLD := Aside0.mk (HDM.out i)
        have HQM := Aside0.mk (HLE.out (i + 1))
        have HXM := Aside0.mk (List.getElem_mem hlt)
        have HCH := Aside0.mk (apTo_chain (la := la) (lb := lb) (n := n) (s := (sa, sb)) i)
        have HWDL := Aside0.mk (apTo_wd (la := la) (lb := lb) (n := n) (s := (sa, sb)) i)
        rw [HST.out] at HQM
        have him2 : i + 1 ≤ N := by omega
        rw [List.drop_eq_getElem_cons hlt, List.map_cons] at HSA
        generalize (apTo la lb n (sa, sb) i)[i] = x at *
        generalize apTo la lb n (sa, sb) i = l at *
        obtain ⟨qg, qo, qc, rfl, hq0, hq1⟩ := kP_head (HSA.out).hQ
        obtain ⟨A1, c1, hcut, hq2⟩ := kP_tail (HSA.out).hQ
        have HS1 := Aside0.mk ((HSA.out).tail hq2)
        clear hq2 HSA
        generalize hql : (List.map (fun x => x.p) (List.drop (i + 1) l)).length = ql at *
        have HQL := Aside0.mk hql
        clear hql
        have hgt : (0 : Int) < (ql : Int) + 1 := by omega
        go_upto_region 10 with (fail)
        obtain ⟨Sq1, HS2, HSS, HSQ⟩ := (HS1.out).bound2
        clear HSQ
        have HS3 := Aside0.mk (((HS2.out).below (below_alloc (Below.refl wr.heap.size wr) (.cells #[.int .i64 x.p.1, .int .i64 x.p.2] 56))).cons (b := wr.heap.size) (x := x.p) (blk_new wr _) (fun h => Nat.lt_irrefl _ (HSS.out _ h)) ((HS2.out).hb).size)
        have HXS := Aside0.mk (show sk ≠ wr.heap.size from fun e => by have := (Array.getElem?_eq_some_iff.1 ((HS2.out).hbs _ List.mem_cons_self).1).1; omega)
        clear HS1 HS2 HSS hcut hq0 hq1 hgt
        generalize (wr.alloc (.cells #[.int .i64 x.p.1, .int .i64 x.p.2] 56)) = w5 at *
        generalize wr.heap.size = xb at *
        obtain ⟨hc0, hc1, hc2⟩ := box_cells (HS3.out).ha
        go_wp2
        clear hc0 hc1 hc2
        go_loopg [10, 44] n (fun gk v10 v44 wi => ∃ (e : Nat) (Sq : Nat → Prop), e ≤ n ∧ n - e ≤ gk ∧ v44 = .int .i64 e ∧ Aside0 (rowAns la lb x e = none) ∧
          Aside0 (SA w wi #[.int .i64 n, .int .i64 sa, .slice A la.length ca] #[.int .i64 n, .int .i64 sb, .slice B lb.length cb] MB [(xb, x.p), (sk, (sa, sb))] v10 Sq (((apRow la lb x l e).drop (i + 1)).map (·.p)) (ents (apRow la lb x l e))))
        case atStart => exact ⟨0, _, by omega, by omega, rfl, ⟨rfl⟩, HS3⟩
        case round =>
          clear HS3 Sq1
          obtain ⟨e, Sq, hen, hgk, rfl, HRN, HSA⟩ := hrel
          by_cases hle : e < n
          · have hlez : (e : Int) < (n : Int) := by omega
            have HRS := Aside0.mk (show apRow la lb x l (e + 1) = if oneB (stp la lb x.p e) || seenB (stp la lb x.p e) (apRow la lb x l e) then apRow la lb x l e else apRow la lb x l e ++ [⟨stp la lb x.p e, x.wd ++ [(e : Int)], x.p, e⟩] from rfl)
            have hql2 := Nat.le_trans (apRow_mono (la := la) (lb := lb) (x := x) (l := l) (e := e) (e' := n) (by omega)) HQM.out
            have HF1 := Aside0.mk fun h => rowAns_found HRN.out (h : oneB (stp la lb x.p e) = true) (n - (e + 1))
            rw [show e + 1 + (n - (e + 1)) = n from by omega] at HF1
            have HN1 := Aside0.mk fun h => rowAns_next HRN.out (h : oneB (stp la lb x.p e) = false)
            have HYD := Aside0.mk (HSTP.out x.p e (HXD.out).q hlez)
            have HC2 := Aside0.mk (apRow_chain (la := la) (lb := lb) (e := e) HCH.out HXM.out)
            have HQD := Aside0.mk (HRD.out x l HLD.out HXD.out e (by omega))
            have hix : i + 1 ≤ (apRow la lb x l e).length := by
              obtain ⟨r, hr⟩ := apRow_pre (la := la) (lb := lb) (x := x) (l := l) (e := e)
              rw [hr, List.length_append]; omega
            have HXM2 := Aside0.mk (show x ∈ apRow la lb x l e from by
              obtain ⟨r, hr⟩ := apRow_pre (la := la) (lb := lb) (x := x) (l := l) (e := e)
              rw [hr]; exact List.mem_append_left _ HXM.out)
            have HWD2 := Aside0.mk (apRow_wd (la := la) (lb := lb) (e := e) (m := i + 1) (fun t ht => Nat.le_succ_of_le (HWDL.out t ht)) (Nat.lt_succ_of_le (HWDL.out x HXM.out)))
            generalize apRow la lb x l e = qe at *
            obtain ⟨A10, c10, e10, _⟩ := Kd.Q_slice (HSA.out).hQ
            subst e10
            have hq3 : (List.map (fun x => x.p) (List.drop (i + 1) qe)).length ≤ N := by simp; omega
            generalize hqn : (List.map (fun x => x.p) (List.drop (i + 1) qe)).length = qn at *
            have HQN2 := Aside0.mk hqn
            clear hqn
            have H2c := Aside0.mk fun W (hW : Below w.heap.size w W) => H2.out W hW x.p.1 e (HXD.out).q.1 (by omega) (by omega)
            have H3c := Aside0.mk fun W (hW : Below w.heap.size w W) => H3.out W hW x.p.2 e (HXD.out).q.2 (by omega) (by omega)
            unfold stp at HRS HF1 HN1 HYD
            generalize nextB la x.p.1 e = y1 at *
            generalize nextB lb x.p.2 e = y2 at *
            go_upto_region 13 with (fail)
            go_cut [13] from 47 to 57 (fun s13 wx => ∃ (yb : Nat) (Sq : Nat → Prop), s13 = .pointer (some ⟨yb, 0, none⟩) ∧ Aside0 (yb ≠ xb ∧ yb ≠ sk) ∧
              Aside0 (SA w wx #[.int .i64 n, .int .i64 sa, .slice A la.length ca] #[.int .i64 n, .int .i64 sb, .slice B lb.length cb] MB [(yb, (y1, y2)), (xb, x.p), (sk, (sa, sb))] (.slice A10 qn c10) Sq ((qe.drop (i + 1)).map (·.p)) (ents qe)))
            case first =>
              obtain ⟨Sq1, HB0, HSS, HSQ⟩ := (HSA.out).bound2
              have HBS := Aside0.mk ((HB0.out).hb).size
              have hltx : xb < wr.heap.size := (Array.getElem?_eq_some_iff.1 ((HB0.out).hbs _ List.mem_cons_self).1).1
              have hltk : sk < wr.heap.size := (Array.getElem?_eq_some_iff.1 ((HB0.out).hbs (sk, (sa, sb)) (by simp)).1).1
              clear HSA HSQ
              generalize hw0 : wr = w0 at *
              have HP0 := (HB0.out).below (W1 := w0.drew) (below_drew (Below.refl _ _))
              go_region_held3 (fun w' => ((w'.cell? ⟨w.heap.size, 0, none⟩ = some (.int .i64 n) ∧ w'.cell? ⟨w.heap.size, 1, none⟩ = some (.int .i64 sa) ∧ w'.cell? ⟨w.heap.size, 2, none⟩ = some (.slice A la.length ca)) ∧ (w'.cell? ⟨w.heap.size + 1, 0, none⟩ = some (.int .i64 n) ∧ w'.cell? ⟨w.heap.size + 1, 1, none⟩ = some (.int .i64 sb) ∧ w'.cell? ⟨w.heap.size + 1, 2, none⟩ = some (.slice B lb.length cb))) ∧
                  (w'.cell? ⟨xb, 0, none⟩ = some (.int .i64 x.p.1) ∧ w'.cell? ⟨xb, 1, none⟩ = some (.int .i64 x.p.2)))
                (first | exact HP0.held List.mem_cons_self | exact HP1.held List.mem_cons_self | exact HP2.held List.mem_cons_self | exact SA.held (HP2.put2 HN2 HU HT HZ (y1, y2)) mem1 | exact SA.held (SA.below HB0.out (below_drew (below_alloc (Below.refl w0.heap.size w0) (.cells #[.int .i64 0, .int .i64 0] 56)))) List.mem_cons_self | exact SA.held (SA.below HP1 (below_alloc (Below.refl _ _) _)) List.mem_cons_self | exact SA.held (SA.below HP2 (below_alloc (Below.refl _ _) _)) List.mem_cons_self | fail)
                (first
                  | (go_at_call 44; (first | (with_reducible refine (H2c.out _ HP0.hb).mono ?_) | (have HN : ((w0.alloc (.cells #[.int .i64 0, .int .i64 0] 56)).drew).heap[w0.heap.size]? = some (.cells #[.int .i64 0, .int .i64 0] 56 (0, 0)) := blk_drew (blk_new w0 _); have HT : ¬ Sq1 w0.heap.size := (fun h => Nat.lt_irrefl _ (HSS.out _ h)); have HU := HBS.out; have HZ := ne_boxes hltx hltk (Nat.le_refl w0.heap.size) x.p (sa, sb); have HP0 := (HB0.out).below (below_drew (below_alloc (Below.refl w0.heap.size w0) (.cells #[.int .i64 0, .int .i64 0] 56))); with_reducible refine (H2c.out _ HP0.hb).mono ?_)); rintro E w4 ⟨rfl, hb⟩; have HV : w0.heap.size ≤ w4.heap.size := (Nat.le_trans (by simp) hb.size); have HP1 := HP0.below hb; (try have HN1 := blk_below HN hb); clear hb; (try clear HN); clear HP0)
                  | (go_at_call 44; (first | (with_reducible refine (H3c.out _ HP1.hb).mono ?_) | (have HN1 : (w4.alloc (.cells #[.int .i64 0, .int .i64 0] 56)).heap[w4.heap.size]? = some (.cells #[.int .i64 0, .int .i64 0] 56 (0, 0)) := blk_new w4 _; have HT : ¬ Sq1 w4.heap.size := (fun h => Nat.not_lt.2 HV (HSS.out _ h)); have HU := Nat.le_trans HBS.out HV; have HZ := ne_boxes hltx hltk HV x.p (sa, sb); have HP1 := HP1.below (below_alloc (Below.refl _ _) (.cells #[.int .i64 0, .int .i64 0] 56)); with_reducible refine (H3c.out _ HP1.hb).mono ?_)); rintro E w5 ⟨rfl, hb⟩; have HV2 : w0.heap.size ≤ w5.heap.size := (Nat.le_trans HV (Nat.le_trans (by simp) hb.size)); have HP2 := HP1.below hb; (try have HN2 := blk_below HN1 hb); clear hb; (try clear HN1); clear HP1; (try (have hk0 := (blk_cell HN2 0).trans rfl; have hk1 := (blk_cell HN2 1).trans rfl; have hf0 := blk_frozen HN2 0; have hf1 := blk_frozen HN2 1)))
                  | fail)
              · go_wp2_with fail
                go_meet
                exact ⟨_, Sq1, rfl, ⟨by omega, by omega⟩, ⟨((HP2.below (below_alloc (Below.refl _ _) _)).cons (b := w5.heap.size) (x := (y1, y2)) (blk_new w5 _) (fun h => Nat.not_lt.2 HV2 (HSS.out _ h)) (Nat.le_trans HBS.out HV2))⟩⟩
              · go_wp2_with fail
                go_meet
                exact ⟨_, Sq1, rfl, ⟨by omega, by omega⟩, ⟨HP2.put2 HN2 HU HT HZ (y1, y2)⟩⟩
              · go_wp2_with fail
                go_meet
                exact ⟨_, Sq1, rfl, ⟨by omega, by omega⟩, ⟨HP2.put2 HN2 HU HT HZ (y1, y2)⟩⟩
            case rest =>
              clear HSA H2c H3c Sq
              obtain ⟨yb, Sq, rfl, HYN, HSA⟩ := hcut
              generalize wc = w6 at *
              have hlk := MapIs.look (HSA.out).hM keyPair Try.underlying59 (zero58 w6) (HWF.out _ HYD.out) true
              obtain ⟨⟨hy0, hy1⟩, _⟩ := (HSA.out).cell (b := yb) (x := (y1, y2)) List.mem_cons_self
              have hyb := HYD.out
              have hyr : -1 ≤ y1 ∧ -1 ≤ y2 := ⟨hyb.1.1, hyb.2.1⟩
              cases hone : oneB (y1, y2) with
              | true =>
                have hnk := one_new HQD.out hone
                rw [mget_none.2 (by rw [ents_keys]; exact hnk)] at hlk
                have hl : (Instr.lookup 59 (.map (some MB)) (.agg #[.int .i64 y1, .int .i64 y2]) true).run Try.prog w6 = .ok (.tuple #[.agg #[.int .i64 0, .int .i64 0, .int .i64 0], .bool false]) w6 := hlk
                have hff : (y1 == -1 && y2 == -1) = false := by
                  cases h : (y1 == -1 && y2 == -1) with
                  | false => rfl
                  | true =>
                    rw [Bool.and_eq_true, beq_iff_eq, beq_iff_eq] at h
                    rw [h.1, h.2] at hone
                    exact absurd hone (by decide)
                have heq : ∀ W, (Op.equalIn 10000 56 (.agg #[.int .i64 y1, .int .i64 y2]) (.agg #[.int .i64 (-1), .int .i64 (-1)])).run Try.prog W = .ok false W := fun W => by rw [eq56, hff]
                have HNK := Aside0.mk hnk
                have HW := Aside0.mk (show av = some (x.wd ++ [(e : Int)]) from by
                  rw [HV.out]
                  have := HFD.out _ (HF1.out hone) (N - (i + 1))
                  rwa [show i + 1 + (N - (i + 1)) = N from by omega] at this)
                have HONE := Aside0.mk hone
                have HYR := Aside0.mk hyr
                clear hlk hff hnk hone HN1 HF1 HFD HNX HRS hyb hyr
                go_upto_region 15 with (fail)
                have HS7 := Aside0.mk ((HSA.out).below (below_alloc (Below.refl w6.heap.size w6) (.cells #[.int .i64 0, .int .i64 0, .int .i64 0] 58)))
                clear HSA hl hy0 hy1
                generalize (w6.alloc (.cells #[.int .i64 0, .int .i64 0, .int .i64 0] 58)) = w7 at *
                obtain ⟨⟨hy0, hy1⟩, _⟩ := (HS7.out).cell (b := yb) (x := (y1, y2)) List.mem_cons_self
                obtain ⟨⟨hx0, hx1⟩, _⟩ := (HS7.out).cell (b := xb) (x := x.p) mem1
                obtain ⟨w8, hput, HM8, hg8⟩ := MapIs.put (HS7.out).hM keyPair Try.underlying59 (HWF.out _ HYD.out) (x.p, (e : Int))
                have hput' : (Instr.mapUpdate 59 (.map (some MB)) (.agg #[.int .i64 y1, .int .i64 y2]) (.agg #[.int .i64 x.p.1, .int .i64 x.p.2, .int .i64 (e : Int)])).run Try.prog w7 = .ok () w8 := hput
                have HML := Aside0.mk (mput_ents (L := qe) (t := ⟨(y1, y2), x.wd ++ [(e : Int)], x.p, e⟩) HNK.out)
                rw [HML.out] at HM8
                have HS8 := Aside0.mk ((HS7.out).map HM8 hg8)
                have HCL := Aside0.mk ((HC2.out).snoc2 HXM2.out (y1, y2) e HNK.out)
                clear hput HM8 hg8 HML
                go_upto_region 17 with (fail)
                have HWL := Aside0.mk (show ∀ t ∈ qe ++ [⟨(y1, y2), x.wd ++ [(e : Int)], x.p, e⟩], t.wd.length ≤ i + 1 from fun t ht => by
                  rcases List.mem_append.1 ht with ht | ht
                  · exact HWD2.out t ht
                  · rw [List.mem_singleton.1 ht]
                    have := HWDL.out x HXM.out
                    simp; exact this)
                have HDL := Aside0.mk (show ∀ t ∈ qe ++ [⟨(y1, y2), x.wd ++ [(e : Int)], x.p, e⟩], domP t.p from fun t ht => by
                  rcases List.mem_append.1 ht with ht | ht
                  · exact HWF.out _ (HQD.out t ht).q
                  · rw [List.mem_singleton.1 ht]
                    exact HWF.out _ HYD.out)
                have HTM := Aside0.mk (show (⟨(y1, y2), x.wd ++ [(e : Int)], x.p, e⟩ : PT) ∈ qe ++ [⟨(y1, y2), x.wd ++ [(e : Int)], x.p, e⟩] from List.mem_append_right _ List.mem_cons_self)
                have HT0 := Aside0.mk (show (⟨(y1, y2), x.wd ++ [(e : Int)], x.p, e⟩ : PT).p = (y1, y2) ∧ (⟨(y1, y2), x.wd ++ [(e : Int)], x.p, e⟩ : PT).wd = x.wd ++ [(e : Int)] from ⟨rfl, rfl⟩)
                generalize (⟨(y1, y2), x.wd ++ [(e : Int)], x.p, e⟩ : PT) = T0 at *
                clear hx0 hx1 hy0 hy1 hput' HS7 HNK HSTP HRD H2 H3 HLE HDM HNO HXI HST HXD HLD HQM HXM HCH HWDL HRN HC2 HQD HXM2 HWD2 HA HB HV
                obtain ⟨⟨hy0, hy1⟩, _⟩ := (HS8.out).cell (b := yb) (x := (y1, y2)) List.mem_cons_self
                go_cut [82] from 75 to 82 (fun s82 wx => s82 = .bool true ∧ w8 = wx)
                case first =>
                  have hone := HONE.out
                  by_cases h1 : y1 < 0
                  · have k1 : decide (y1 < 0) = true := by simpa using h1
                    go_wp2
                    go_meet
                    exact ⟨rfl, rfl⟩
                  · have k1 : decide (y1 < 0) = false := by simpa using h1
                    have k2 : decide (y2 < 0) = true := by
                      unfold oneB at hone
                      rw [k1] at hone
                      cases h2 : decide (y2 < 0) with
                      | true => rfl
                      | false => rw [h2] at hone; exact absurd hone (by decide)
                    clear hone h1
                    go_wp2
                    go_meet
                    exact ⟨rfl, rfl⟩
                case rest =>
                  obtain ⟨rfl, rfl⟩ := hcut
                  clear hy0 hy1
                  rw [← (HT0.out).1] at HS8
                  have HTW := Aside0.mk (show T0.wd ++ ([] : List Int).reverse = x.wd ++ [(e : Int)] from by rw [(HT0.out).2]; simp)
                  have hT0 : T0.wd.length ≤ i + 1 := HWL.out _ HTM.out
                  have hTL : (x.wd ++ [(e : Int)]).length ≤ i + 1 := by rw [← (HT0.out).2]; exact hT0
                  generalize x.wd ++ [(e : Int)] = total at *
                  generalize qe ++ [T0] = L at *
                  clear HT0
                  go_wp2
                  go_loopg [16] (i + 1) (fun gg3 v16 wi => ∃ (t : PT) (out : List Int) (S : Nat → Prop), t.wd.length ≤ gg3 ∧ t ∈ L ∧ Aside0 (t.wd ++ out.reverse = total) ∧ Aside0 (Kd.R (Kd.int .i64) 3 wi w.heap.size S v16 out) ∧
                    Aside0 (SA w wi #[.int .i64 n, .int .i64 sa, .slice A la.length ca] #[.int .i64 n, .int .i64 sb, .slice B lb.length cb] MB [(yb, t.p), (xb, x.p), (sk, (sa, sb))] (.slice A10 qn c10) Sq ((qe.drop (i + 1)).map (·.p)) (ents L)))
                  case atStart => exact ⟨T0, [], fun _ => False, hT0, HTM.out, HTW, ⟨Kd.R_nil _ _ _ _ _⟩, HS8⟩
                  case round =>
                    clear HS8 HTW hT0 HTM T0
                    obtain ⟨t, out, S, hgg3, htL, HTT, HR, HSA⟩ := hrel
                    obtain ⟨⟨hy0, hy1⟩, hf0, hf1⟩ := (HSA.out).cell (b := yb) (x := t.p) List.mem_cons_self
                    obtain ⟨⟨hx0, hx1⟩, _⟩ := (HSA.out).cell (b := sk) (x := (sa, sb)) (by simp)
                    obtain ⟨A16, c16, e16⟩ := Kd.R_slice HR.out
                    subst e16
                    have HLT := Aside0.mk (HCL.out.hc t htL)
                    have HMG := Aside0.mk (mget_ents HCL.out.nd htL)
                    have HTD := Aside0.mk (HDL.out t htL)
                    have HRT := Aside0.mk (fun h : t.p = (sa, sb) => nodup_inj (f := PT.p) HCL.out.nd htL HCL.out.hr h)
                    generalize htp : t.p = tp at *
                    obtain ⟨t1, t2⟩ := tp
                    have HTP := Aside0.mk htp
                    clear htp
                    by_cases hst : t1 = sa ∧ t2 = sb
                    · have heq : ∀ W, (Op.equalIn 10000 56 (.agg #[.int .i64 t1, .int .i64 t2]) (.agg #[.int .i64 sa, .int .i64 sb])).run Try.prog W = .ok true W := fun W => by rw [eq56, hst.1, hst.2]; simp
                      have HTE := Aside0.mk (HRT.out (by rw [hst.1, hst.2]))
                      have HOUT := Aside0.mk (show out.reverse = total from by
                        have := HTT.out
                        rw [HTE.out] at this
                        simpa [root] using this)
                      clear hst
                      have hrev := reverse_calls w.heap.size S A16 c16 out wr HR.out
                      unfold RevEnd at hrev
                      have HREV := Aside0.mk hrev
                      clear hrev
                      go_wp2_with fail
                      refine HREV.out.mono ?_
                      rintro E w9 ⟨rfl, hr9, hg9⟩
                      rw [HOUT.out] at hr9
                      have HR9 := Aside0.mk hr9
                      have HL9 := Aside0.mk (show out.length = total.length from by rw [← HOUT.out]; simp)
                      have HB9 := Aside0.mk (pw_below_grown (HSA.out).hb _ ((HSA.out).hb).size hg9 (Kd.R_base HR.out))
                      clear hr9 hg9
                      go_wp2
                      go_ret3
                      rw [HW.out]
                      have hr9 := HR9.out
                      rw [HL9.out] at hr9
                      have hrr := Kd.R_reads' hr9
                      refine ⟨A16, c16, hrr.2.1, ?_, hrr.2.2, HB9.out⟩
                      rw [HL9.out]
                      rfl
                    · have hff : (t1 == sa && t2 == sb) = false := by
                        cases h : (t1 == sa && t2 == sb) with
                        | false => rfl
                        | true =>
                          rw [Bool.and_eq_true, beq_iff_eq, beq_iff_eq] at h
                          exact absurd h hst
                      have heq : ∀ W, (Op.equalIn 10000 56 (.agg #[.int .i64 t1, .int .i64 t2]) (.agg #[.int .i64 sa, .int .i64 sb])).run Try.prog W = .ok false W := fun W => by rw [eq56, hff]
                      have HQE := Aside0.mk (show ∃ q ∈ L, q.p = t.par ∧ t.wd = q.wd ++ [t.ev] from by
                        rcases HLT.out with h | ⟨_, h⟩
                        · exact absurd (by rw [h] at HTP; have := HTP.out; simp only [root, Prod.mk.injEq] at this; exact ⟨this.1.symm, this.2.symm⟩) hst
                        · exact h)
                      clear hff hst HLT HRT
                      obtain ⟨q, hq, hqp, hqw⟩ := HQE.out
                      have HQP := Aside0.mk hqp
                      have hqw2 := hgg3
                      rw [hqw, List.length_append, List.length_singleton] at hqw2
                      have HQT := Aside0.mk (show q.wd ++ (out ++ [t.ev]).reverse = total from by
                        rw [← HTT.out, hqw]; simp)
                      have hol : (out.length + 1) * 8 ≤ 140737488355328 := by
                        have h1 := congrArg List.length HTT.out
                        rw [List.length_append, List.length_reverse] at h1
                        omega
                      clear hqp hqw
                      have hlk := MapIs.look (HSA.out).hM keyPair Try.underlying59 (zero58 wr) HTD.out false
                      rw [HMG.out] at hlk
                      have hl : (Instr.lookup 59 (.map (some MB)) (.agg #[.int .i64 t1, .int .i64 t2]) false).run Try.prog wr = .ok (.agg #[.int .i64 t.par.1, .int .i64 t.par.2, .int .i64 t.ev]) wr := hlk
                      clear hlk
                      have hfd1 := fun W => (field58 t.par.1 t.par.2 t.ev W).1
                      have hfd0 := fun W => (field58 t.par.1 t.par.2 t.ev W).2
                      go_upto_region 21 with ((with_reducible refine gate_builtin (b := .append) (xs := #[.tmp 86, .tmp 91]) rfl ?_); at_builtin; refine Kd.R_append (Kd.int .i64) (w0 := w) w.heap.size rfl (.tmp 86) (.tmp 91) 25 3 (.int .i64 0) 8 rfl Try.underlying25 info3 rfl (by decide) (by omega) (.slice A16 out.length c16) out t.ev [.int .i64 t.ev] (fun k => S k ∨ wr.heap.size ≤ k) (fun _ => False) rfl rfl rfl (fun _ hk => hk.elim) (fun k hk => .inr hk) (Kd.R_mono HR.out (fun _ hk => .inl hk)) (HSA.out).hb ((HSA.out).hb).size hol ?_; intro v9 w9 hr9 hb9 hg9 hat9; have HS9 := Aside0.mk ((HSA.out).row HR.out hg9); have HR9 := Aside0.mk hr9; clear hr9 hb9 hg9 hat9)
                      clear hl hy0 hy1 hf0 hf1 hx0 hx1 HSA HR
                      have hlk := MapIs.look (HS9.out).hM keyPair Try.underlying59 (zero58 w9) HTD.out false
                      rw [HMG.out] at hlk
                      have hl : (Instr.lookup 59 (.map (some MB)) (.agg #[.int .i64 t1, .int .i64 t2]) false).run Try.prog w9 = .ok (.agg #[.int .i64 t.par.1, .int .i64 t.par.2, .int .i64 t.ev]) w9 := hlk
                      clear hlk
                      obtain ⟨⟨hy0, hy1⟩, hf0, hf1⟩ := (HS9.out).cell (b := yb) (x := (t1, t2)) List.mem_cons_self
                      go_wp2
                      go_roundg q.wd.length
                      case measure => omega
                      case rel =>
                        have hbx := (HS9.out).hbs _ List.mem_cons_self
                        have HS10 := ((HS9.out).less (bs1 := [(xb, x.p), (sk, (sa, sb))]) (fun p hp => List.mem_cons_of_mem _ hp)).put2 hbx.1 hbx.2.2 hbx.2.1 (fun p hp => by
                          simp only [List.mem_cons, List.not_mem_nil, or_false] at hp
                          rcases hp with rfl | rfl
                          · exact fun h => (HYN.out).1 h.symm
                          · exact fun h => (HYN.out).2 h.symm) q.p
                        rw [HQP.out] at HS10
                        refine ⟨q, out ++ [t.ev], fun k => S k ∨ wr.heap.size ≤ k, Nat.le_refl _, hq, HQT, ⟨R_offrow HR9.out hbx.1 (by simp [Kd.int, Kd.scalar]) (grown2 w9 yb _ _)⟩, ⟨?_⟩⟩
                        rw [HQP.out]
                        exact HS10
              | false =>
                have HN2 := Aside0.mk (HN1.out hone)
                rw [hone, Bool.false_or] at HRS
                by_cases hneg : y1 < 0
                · have hneg2 : y2 < 0 := by
                    unfold oneB at hone
                    rw [decide_eq_true hneg] at hone
                    cases h2 : decide (y2 < 0) with
                    | true => exact of_decide_eq_true h2
                    | false => rw [h2] at hone; exact absurd hone (by decide)
                  obtain rfl : y1 = -1 := by omega
                  obtain rfl : y2 = -1 := by omega
                  rw [seen_iff.2 (.inl hneg)] at HRS
                  simp only [if_true] at HRS
                  rw [mget_none.2 (by rw [ents_keys]; exact fun hm => by obtain ⟨t, ht, he⟩ := List.mem_map.1 hm; have := (HQD.out t ht).1.1; rw [he] at this; exact absurd this (by decide))] at hlk
                  have hl : (Instr.lookup 59 (.map (some MB)) (.agg #[.int .i64 (-1), .int .i64 (-1)]) true).run Try.prog w6 = .ok (.tuple #[.agg #[.int .i64 0, .int .i64 0, .int .i64 0], .bool false]) w6 := hlk
                  have heq : ∀ W, (Op.equalIn 10000 56 (.agg #[.int .i64 (-1), .int .i64 (-1)]) (.agg #[.int .i64 (-1), .int .i64 (-1)])).run Try.prog W = .ok true W := fun W => by rw [eq56]; rfl
                  clear hlk hone HN1 HF1 HFD hneg hneg2 hyb hyr
                  go_upto_region 15 with (fail)
                  have HS7 := Aside0.mk ((HSA.out).below (below_alloc (Below.refl w6.heap.size w6) (.cells #[.int .i64 0, .int .i64 0, .int .i64 0] 58)))
                  clear HSA hl hy0 hy1
                  generalize (w6.alloc (.cells #[.int .i64 0, .int .i64 0, .int .i64 0] 58)) = w7 at *
                  obtain ⟨⟨hy0, hy1⟩, _⟩ := (HS7.out).cell (b := yb) (x := (-1, -1)) List.mem_cons_self
                  go_wp2
                  go_roundg (n - (e + 1))
                  case measure => omega
                  case rel =>
                    refine ⟨e + 1, Sq, by omega, by omega, by go_num, HN2, ?_⟩
                    rw [HRS.out]
                    exact ⟨(HS7.out).less (fun p hp => List.mem_cons_of_mem _ hp)⟩
                · have hneg2 : ¬ y2 < 0 := by
                    unfold oneB at hone
                    rw [decide_eq_false hneg] at hone
                    exact fun h2 => by rw [decide_eq_true h2] at hone; exact absurd hone (by decide)
                  by_cases hmem : ((y1, y2) : Int × Int) ∈ qe.map (·.p)
                  · rw [seen_iff.2 (.inr hmem)] at HRS
                    simp only [if_true] at HRS
                    obtain ⟨t, ht, he⟩ := List.mem_map.1 hmem
                    have hmg := mget_ents (HC2.out).nd ht
                    rw [show t.p = (y1, y2) from he] at hmg
                    rw [hmg] at hlk
                    have hl : (Instr.lookup 59 (.map (some MB)) (.agg #[.int .i64 y1, .int .i64 y2]) true).run Try.prog w6 = .ok (.tuple #[.agg #[.int .i64 t.par.1, .int .i64 t.par.2, .int .i64 t.ev], .bool true]) w6 := hlk
                    clear hlk hone HN1 HF1 HFD hneg hneg2 hyb hyr hmem hmg he ht
                    go_upto_region 15 with (fail)
                    have HS7 := Aside0.mk ((HSA.out).below (below_alloc (Below.refl w6.heap.size w6) (.cells #[.int .i64 t.par.1, .int .i64 t.par.2, .int .i64 t.ev] 58)))
                    clear HSA hl hy0 hy1
                    generalize (w6.alloc (.cells #[.int .i64 t.par.1, .int .i64 t.par.2, .int .i64 t.ev] 58)) = w7 at *
                    obtain ⟨⟨hy0, hy1⟩, _⟩ := (HS7.out).cell (b := yb) (x := (y1, y2)) List.mem_cons_self
                    go_wp2
                    go_roundg (n - (e + 1))
                    case measure => omega
                    case rel =>
                      refine ⟨e + 1, Sq, by omega, by omega, by go_num, HN2, ?_⟩
                      rw [HRS.out]
                      exact ⟨(HS7.out).less (fun p hp => List.mem_cons_of_mem _ hp)⟩
                  · have hns : seenB (y1, y2) qe = false := by
                      cases h : seenB (y1, y2) qe with
                      | false => rfl
                      | true => exact absurd (seen_iff.1 h) (by rintro (h | h); exact hneg h; exact hmem h)
                    rw [hns] at HRS
                    simp only [Bool.false_eq_true, if_false] at HRS
                    rw [mget_none.2 (by rw [ents_keys]; exact hmem)] at hlk
                    have hl : (Instr.lookup 59 (.map (some MB)) (.agg #[.int .i64 y1, .int .i64 y2]) true).run Try.prog w6 = .ok (.tuple #[.agg #[.int .i64 0, .int .i64 0, .int .i64 0], .bool false]) w6 := hlk
                    have hff : (y1 == -1 && y2 == -1) = false := by
                      rw [beq_eq_false_iff_ne.2 (by omega : y1 ≠ -1)]; rfl
                    have heq : ∀ W, (Op.equalIn 10000 56 (.agg #[.int .i64 y1, .int .i64 y2]) (.agg #[.int .i64 (-1), .int .i64 (-1)])).run Try.prog W = .ok false W := fun W => by rw [eq56, hff]
                    have k1 : decide (y1 < 0) = false := by simpa using hneg
                    have k2 : decide (y2 < 0) = false := by simpa using hneg2
                    have HML := Aside0.mk (mput_ents (L := qe) (t := ⟨(y1, y2), x.wd ++ [(e : Int)], x.p, e⟩) hmem)
                    clear hlk hone HN1 HF1 HFD hneg hneg2 hyb hyr hmem hns hff
                    go_upto_region 15 with (fail)
                    have HS7 := Aside0.mk ((HSA.out).below (below_alloc (Below.refl w6.heap.size w6) (.cells #[.int .i64 0, .int .i64 0, .int .i64 0] 58)))
                    clear HSA hl hy0 hy1
                    generalize (w6.alloc (.cells #[.int .i64 0, .int .i64 0, .int .i64 0] 58)) = w7 at *
                    obtain ⟨⟨hy0, hy1⟩, _⟩ := (HS7.out).cell (b := yb) (x := (y1, y2)) List.mem_cons_self
                    obtain ⟨⟨hx0, hx1⟩, _⟩ := (HS7.out).cell (b := xb) (x := x.p) mem1
                    obtain ⟨w8, hput, HM8, hg8⟩ := MapIs.put (HS7.out).hM keyPair Try.underlying59 (HWF.out _ HYD.out) (x.p, (e : Int))
                    have hput' : (Instr.mapUpdate 59 (.map (some MB)) (.agg #[.int .i64 y1, .int .i64 y2]) (.agg #[.int .i64 x.p.1, .int .i64 x.p.2, .int .i64 (e : Int)])).run Try.prog w7 = .ok () w8 := hput
                    rw [HML.out] at HM8
                    have HS8 := Aside0.mk ((HS7.out).map HM8 hg8)
                    clear hput HM8 hg8 HML
                    go_upto_region 17 with (fail)
                    clear hput' hx0 hx1 hy0 hy1 HS7
                    obtain ⟨⟨hy0, hy1⟩, _⟩ := (HS8.out).cell (b := yb) (x := (y1, y2)) List.mem_cons_self
                    have hlq2 : ((List.map (fun x => x.p) (List.drop (i + 1) qe)).length + 1) * 16 ≤ 140737488355328 := by have := HQN2.out; omega
                    have hvq : Value.slice A10 qn c10 = Value.slice A10 (List.map (fun x => x.p) (List.drop (i + 1) qe)).length c10 := by rw [HQN2.out]
                    have HVQ := Aside0.mk hvq
                    clear hvq
                    go_wp2_with ((with_reducible refine gate_builtin (b := .append) (xs := #[.tmp 100, .tmp 102]) rfl ?_); at_builtin; refine Kd.Q_append kP (w0 := w) w.heap.size rfl (.tmp 100) (.tmp 102) 60 56 (.agg #[.int .i64 0, .int .i64 0]) 16 rfl Try.underlying60 info56 rfl (by decide) (by omega) (.slice A10 qn c10) (List.map (fun x => x.p) (List.drop (i + 1) qe)) (y1, y2) [.int .i64 y1, .int .i64 y2] (fun k => Sq k ∨ w8.heap.size ≤ k) (fun _ => False) rfl rfl ?m1 ?m2 ?m3 ?m4 ?m5 ?m6 ?m7 ?_; (case m1 => exact M_pair _ _ _ (y1, y2)); (case m2 => exact fun _ hk => hk.elim); (case m3 => exact fun k hk => .inr hk); (case m4 => exact Kd.Q_mono (HS8.out).hQ (fun _ hk => .inl hk)); (case m5 => exact (HS8.out).hb); (case m6 => exact ((HS8.out).hb).size); (case m7 => exact hlq2); intro v9 w9 ho9 hb9 hg9 hat9; have HS9 := Aside0.mk ((HS8.out).appQ ho9 hg9); clear ho9 hb9 hg9 hat9 HS8)
                    go_roundg (n - (e + 1))
                    case measure => omega
                    case rel =>
                      refine ⟨e + 1, fun k => Sq k ∨ w8.heap.size ≤ k, by omega, by omega, by go_num, HN2, ?_⟩
                      rw [HRS.out, List.drop_append_of_le_length hix, List.map_append]
                      exact ⟨(HS9.out).less (fun p hp => List.mem_cons_of_mem _ hp)⟩
          · have hlez : ¬ (e : Int) < (n : Int) := by omega
            obtain rfl : e = n := by omega
            have HN3 := Aside0.mk (HNX.out HRN.out)
            go_wp2
            go_roundg (N - (i + 1))
            case measure => omega
            case rel =>
              refine ⟨i + 1, Sq, by omega, by omega, HN3, ?_⟩
              rw [HST.out]
              exact ⟨(HSA.out).less (fun p hp => List.mem_cons_of_mem _ hp)⟩
      · have HW := Aside0.mk (show av = none from by
          rw [HV.out]
          have := apAns_stays HNO.out (List.getElem?_eq_none_iff.2 (by omega)) (N - i)
          rwa [show i + (N - i) = N from by omega] at this)
        rw [List.drop_eq_nil_of_le (by omega), List.map_nil] at HSA
        obtain ⟨A10, c10, e10, _⟩ := Kd.Q_slice (HSA.out).hQ
        rw [List.length_nil] at e10
        subst e10
        generalize apTo la lb n (sa, sb) i = l at *
        go_wp2
        go_ret3
        rw [HW.out]
        exact ⟨none, 0, Nat.le_refl _, rfl, C_nil _, (HSA.out).hb⟩
  · have HW := Aside0.mk (show apVal ea sa la eb sb lb = none from if_neg hp)
    generalize apVal ea sa la eb sb lb = av at *
    generalize pairVal ea sa la eb sb lb = v at *
    have hv : (v == 0) = false := beq_eq_false_iff_ne.2 hp
    have hv2 : (v != 0) = true := bne_iff_ne.2 hp
    clear hp
    go_enter Try.func23, Try.ntmps23
    go_upto_region 1 with (fail)
    have HS := two3_begin w #[.int .i64 ea, .int .i64 sa, .slice A la.length ca] #[.int .i64 eb, .int .i64 sb, .slice B lb.length cb]
    generalize ((w.alloc (.cells #[.int .i64 ea, .int .i64 sa, .slice A la.length ca] 24)).alloc (.cells #[.int .i64 eb, .int .i64 sb, .slice B lb.length cb] 24)) = w0 at *
    obtain ⟨⟨hc0, hc1, hc2⟩, hd0, hd1, hd2⟩ := two3_held HS
    go_wp2_with fail
    refine (H1.out _ (HS.1).out).mono ?_
    rintro E w1 ⟨rfl, hb⟩
    have HS1 := two3_keep hb HS
    clear hb HS hc0 hc1 hc2 hd0 hd1 hd2 H1
    go_wp2
    go_ret3
    rw [HW.out]
    exact ⟨none, 0, Nat.le_refl _, rfl, C_nil _, (HS1.1).out⟩
end Go.Proofs.Ytmphigeefppfpaa.H
namespace Go.Proofs.Ytmphigeefppfpaa.H
open Go.RowKit Go.Proofs.YtmphigeefppfpaaW.PrintWords Go.Proofs.YtmphigeefppfpaaW.PrintLast Go.Proofs.YtmphigeefppfpaaW.PrintMore
set_option linter.unusedVariables false
theorem spec_below {err n st : Int} {rows : List (List Int)} {w w' : World} {E : Ending} (h : SpecEnd err n st rows w E w') : Below w.heap.size w w' := by
  obtain ⟨_, _, _, _, _, hb⟩ := h
  exact hb
set_option maxHeartbeats 8000000 in
theorem specEqual_calls (ea sa : Int) (A : Option Addr) (ca : Nat) (la : List (List Int)) (eb sb : Int) (B : Option Addr) (cb : Nat) (lb : List (List Int)) (w : World)
    (hra : Kd.C (Kd.slice 3 (Kd.int .i64)) w A la.length la) (hca : la.length ≤ ca) (hrb : Kd.C (Kd.slice 3 (Kd.int .i64)) w B lb.length lb) (hcb : lb.length ≤ cb) :
    Calls Try.prog 12 #[.agg #[.int .i64 ea, .int .i64 sa, .slice A la.length ca], .agg #[.int .i64 eb, .int .i64 sb, .slice B lb.length cb]] w fun e w' => e = .returned (.bool true) ∧ Below w.heap.size w w' := by
  have H1 := Aside0.mk fun W (hW : Below w.heap.size w W) => sapart_calls ea sa A ca la eb sb B cb lb W (Kd.C_below hra hW) hca (Kd.C_below hrb hW) hcb
  unfold ApEnd at H1
  by_cases hp : pairVal ea sa la eb sb lb = 0
  · obtain ⟨hsa, hsb, rfl⟩ := pairVal_zero hp
    obtain ⟨_, _, he0, he1, _, _⟩ := spec_table hsa
    obtain ⟨n, rfl⟩ : ∃ n : Nat, ea = (n : Int) := ⟨ea.toNat, by omega⟩
    rw [hp, show apVal n sa la n sb lb = apAns la lb n (sa, sb) (pairs la lb) from by rw [apVal, if_pos hp, Int.toNat_natCast]] at H1
    have H2 := Aside0.mk fun W (hW : Below w.heap.size w W) => sLeast_calls n sa A ca la W (Kd.C_below hra hW)
    have H3 := Aside0.mk fun W (hW : Below w.heap.size w W) => sLeast_calls n sb B cb lb W (Kd.C_below hrb hW)
    rw [show LeastsEnd n sa la = SpecEnd 0 n 0 (leastRows n sa la) from by simp [LeastsEnd, hsa]] at H2
    rw [show LeastsEnd n sb lb = SpecEnd 0 n 0 (leastRows n sb lb) from by simp [LeastsEnd, hsb]] at H3
    have hka := least_ok hsa
    have hkb := least_ok hsb
    have HRA := Aside0.mk hra
    have HRB := Aside0.mk hrb
    clear hra hrb hca hcb
    cases hap : apAns la lb n (sa, sb) (pairs la lb) with
    | none =>
      rw [hap] at H1
      have heq := equal_none hsa hsb hap
      rw [← heq] at H3
      have HS0 := Aside0.mk (show sameVal n 0 (leastRows n sa la) n 0 (leastRows n sa la) = true from by simp [sameVal, hka])
      generalize leastRows n sa la = r at *
      clear hp hsa hsb hap heq hka hkb he0 he1
      go_enter Try.func12, Try.ntmps12
      go_upto_region 1 with (fail)
      have HS := ((Bx.start w).alloc #[.int .i64 n, .int .i64 sa, .slice A la.length ca]).alloc #[.int .i64 n, .int .i64 sb, .slice B lb.length cb]
      have hsz : (w.alloc (.cells #[.int .i64 n, .int .i64 sa, .slice A la.length ca] 24)).heap.size = w.heap.size + 1 := by simp
      rw [hsz] at HS
      clear hsz
      generalize ((w.alloc (.cells #[.int .i64 n, .int .i64 sa, .slice A la.length ca] 24)).alloc (.cells #[.int .i64 n, .int .i64 sb, .slice B lb.length cb] 24)) = w0 at *
      obtain ⟨hc0, hc1, hc2⟩ := HS.cell (b := w.heap.size) mem1
      obtain ⟨hd0, hd1, hd2⟩ := HS.cell (b := w.heap.size + 1) List.mem_cons_self
      go_wp2_with fail
      refine (H1.out _ HS.hb).mono ?_
      rintro E w1 ⟨A2, c2, _, rfl, _, hb⟩
      have HS1 := HS.below hb
      clear hb HS hc0 hc1 hc2 hd0 hd1 hd2 H1
      obtain ⟨hc0, hc1, hc2⟩ := HS1.cell (b := w.heap.size) mem1
      go_wp2_with fail
      refine (H2.out _ HS1.hb).mono ?_
      rintro E w2 hE
      obtain ⟨A3, c3, hcc3, rfl, HS2⟩ := HS1.spec hE
      clear hE HS1 H2 hc0 hc1 hc2
      go_upto_region 5 with (fail)
      have HS3 := HS2.alloc #[.int .i64 n, .int .i64 0, .slice A3 r.length c3]
      clear HS2
      generalize (w2.alloc (.cells #[.int .i64 n, .int .i64 0, .slice A3 r.length c3] 24)) = w3 at *
      generalize w2.heap.size = b3 at *
      obtain ⟨hd0, hd1, hd2⟩ := HS3.cell (b := w.heap.size + 1) mem1
      go_wp2_with fail
      refine (H3.out _ HS3.hb).mono ?_
      rintro E w4 hE
      obtain ⟨A4, c4, hcc4, rfl, HS4⟩ := HS3.spec hE
      clear hE HS3 H3 hd0 hd1 hd2
      go_upto_region 6 with (fail)
      have HS5 := HS4.alloc #[.int .i64 n, .int .i64 0, .slice A4 r.length c4]
      clear HS4
      generalize (w4.alloc (.cells #[.int .i64 n, .int .i64 0, .slice A4 r.length c4] 24)) = w5 at *
      generalize w4.heap.size = b4 at *
      obtain ⟨hc0, hc1, hc2⟩ := HS5.cell (b := b3) mem1
      obtain ⟨hd0, hd1, hd2⟩ := HS5.cell (b := b4) List.mem_cons_self
      have HSM := Aside0.mk (same_calls n 0 A3 c3 r n 0 A4 c4 r w5 (HS5.hc (A3, r) mem1) (HS5.hc (A4, r) List.mem_cons_self))
      unfold SameEnd at HSM
      rw [HS0.out] at HSM
      go_wp2_with fail
      refine HSM.out.mono ?_
      rintro E w6 ⟨rfl, hb⟩
      have HS6 := HS5.below hb
      clear hb HS5 hc0 hc1 hc2 hd0 hd1 hd2 HSM
      go_wp2_with fail
      refine (alive_calls _).mono ?_
      rintro E w9 ⟨rfl, hb⟩
      have HS9 := HS6.below hb
      go_wp2
      go_ret
      exact ⟨rfl, HS9.hb⟩
    | some wd =>
      rw [hap] at H1
      obtain ⟨hne, hr1, hr2, hone⟩ := equal_some hsa hsb hap
      have HS0 := Aside0.mk (show sameVal n 0 (leastRows n sa la) n 0 (leastRows n sb lb) = false from by simp [sameVal, hka, hkb, hne])
      have H4 := Aside0.mk fun W (hW : Below w.heap.size w W) A2 c2 (hC : Kd.C (Kd.int .i64) W A2 wd.length wd) => read_calls n sa A ca la A2 c2 wd W (Kd.C_below HRA.out hW) hC
      have H5 := Aside0.mk fun W (hW : Below w.heap.size w W) A2 c2 (hC : Kd.C (Kd.int .i64) W A2 wd.length wd) => read_calls n sb B cb lb A2 c2 wd W (Kd.C_below HRB.out hW) hC
      rw [hr1] at H4
      rw [hr2] at H5
      generalize leastRows n sa la = r at *
      generalize leastRows n sb lb = r' at *
      generalize (readFrom la sa 0 wd).1 = q1 at *
      generalize (readFrom lb sb 0 wd).1 = q2 at *
      generalize (readFrom la sa 0 wd).2 = k1 at *
      generalize (readFrom lb sb 0 wd).2 = k2 at *
      unfold tri at H4 H5
      simp only [Option.getD_some, Option.isSome_some] at H1
      clear hp hsa hsb hap hne hka hkb hr1 hr2 he0 he1
      go_enter Try.func12, Try.ntmps12
      go_upto_region 1 with (fail)
      have HS := ((Bx.start w).alloc #[.int .i64 n, .int .i64 sa, .slice A la.length ca]).alloc #[.int .i64 n, .int .i64 sb, .slice B lb.length cb]
      have hsz : (w.alloc (.cells #[.int .i64 n, .int .i64 sa, .slice A la.length ca] 24)).heap.size = w.heap.size + 1 := by simp
      rw [hsz] at HS
      clear hsz
      generalize ((w.alloc (.cells #[.int .i64 n, .int .i64 sa, .slice A la.length ca] 24)).alloc (.cells #[.int .i64 n, .int .i64 sb, .slice B lb.length cb] 24)) = w0 at *
      obtain ⟨hc0, hc1, hc2⟩ := HS.cell (b := w.heap.size) mem1
      obtain ⟨hd0, hd1, hd2⟩ := HS.cell (b := w.heap.size + 1) List.mem_cons_self
      go_wp2_with fail
      refine (H1.out _ HS.hb).mono ?_
      rintro E w1 ⟨A2, c2, _, rfl, hC, hb⟩
      have HS1 := HS.below hb
      have HC1 := Aside0.mk hC
      clear hb HS hc0 hc1 hc2 hd0 hd1 hd2 H1 hC
      obtain ⟨hc0, hc1, hc2⟩ := HS1.cell (b := w.heap.size) mem1
      go_wp2_with fail
      refine (H2.out _ HS1.hb).mono ?_
      rintro E w2 hE
      have HC2 := Aside0.mk (Kd.C_below HC1.out (spec_below hE))
      obtain ⟨A3, c3, hcc3, rfl, HS2⟩ := HS1.spec hE
      clear hE HS1 H2 hc0 hc1 hc2 HC1
      go_upto_region 5 with (fail)
      have HS3 := HS2.alloc #[.int .i64 n, .int .i64 0, .slice A3 r.length c3]
      have HC3 := Aside0.mk (Kd.C_below HC2.out (below_alloc (Below.refl w2.heap.size w2) (.cells #[.int .i64 n, .int .i64 0, .slice A3 r.length c3] 24)))
      clear HS2 HC2
      generalize (w2.alloc (.cells #[.int .i64 n, .int .i64 0, .slice A3 r.length c3] 24)) = w3 at *
      generalize w2.heap.size = b3 at *
      obtain ⟨hd0, hd1, hd2⟩ := HS3.cell (b := w.heap.size + 1) mem1
      go_wp2_with fail
      refine (H3.out _ HS3.hb).mono ?_
      rintro E w4 hE
      have HC4 := Aside0.mk (Kd.C_below HC3.out (spec_below hE))
      obtain ⟨A4, c4, hcc4, rfl, HS4⟩ := HS3.spec hE
      clear hE HS3 H3 hd0 hd1 hd2 HC3
      go_upto_region 6 with (fail)
      have HS5 := HS4.alloc #[.int .i64 n, .int .i64 0, .slice A4 r'.length c4]
      have HC5 := Aside0.mk (Kd.C_below HC4.out (below_alloc (Below.refl w4.heap.size w4) (.cells #[.int .i64 n, .int .i64 0, .slice A4 r'.length c4] 24)))
      clear HS4 HC4
      generalize (w4.alloc (.cells #[.int .i64 n, .int .i64 0, .slice A4 r'.length c4] 24)) = w5 at *
      generalize w4.heap.size = b4 at *
      obtain ⟨hc0, hc1, hc2⟩ := HS5.cell (b := b3) mem1
      obtain ⟨hd0, hd1, hd2⟩ := HS5.cell (b := b4) List.mem_cons_self
      have HSM := Aside0.mk (same_calls n 0 A3 c3 r n 0 A4 c4 r' w5 (HS5.hc (A3, r) mem1) (HS5.hc (A4, r') List.mem_cons_self))
      unfold SameEnd at HSM
      rw [HS0.out] at HSM
      have HONE := Aside0.mk hone
      clear hone
      go_wp2_with fail
      refine HSM.out.mono ?_
      rintro E w6 ⟨rfl, hb⟩
      have HS6 := HS5.below hb
      have HC6 := Aside0.mk (Kd.C_below HC5.out hb)
      clear hb HS5 hc0 hc1 hc2 hd0 hd1 hd2 HSM HC5
      obtain ⟨hc0, hc1, hc2⟩ := HS6.cell (b := w.heap.size) mem3
      obtain ⟨hd0, hd1, hd2⟩ := HS6.cell (b := w.heap.size + 1) mem2
      go_wp2_with fail
      refine (H4.out _ HS6.hb A2 c2 HC6.out).mono ?_
      rintro E w7 ⟨rfl, hb⟩
      have HS7 := HS6.below hb
      have HC7 := Aside0.mk (Kd.C_below HC6.out hb)
      clear hb HS6 hc0 hc1 hc2 hd0 hd1 hd2 H4 HC6
      obtain ⟨hd0, hd1, hd2⟩ := HS7.cell (b := w.heap.size + 1) mem2
      go_wp2_with fail
      refine (H5.out _ HS7.hb A2 c2 HC7.out).mono ?_
      rintro E w8 ⟨rfl, hb⟩
      have HS8 := HS7.below hb
      clear hb HS7 hd0 hd1 hd2 H5 HC7
      have hone := HONE.out
      unfold oneB at hone
      simp only at hone
      cases hq1 : decide (q1 < 0) with
      | false =>
        have hq2 : decide (q2 < 0) = true := by
          rw [hq1] at hone
          cases h : decide (q2 < 0) with
          | true => rfl
          | false => rw [h] at hone; exact absurd hone (by decide)
        clear hone
        go_wp2_with fail
        refine (alive_calls _).mono ?_
        rintro E w9 ⟨rfl, hb⟩
        have HS9 := HS8.below hb
        go_wp2
        go_ret
        exact ⟨rfl, HS9.hb⟩
      | true =>
        have hq2 : decide (q2 < 0) = false := by
          rw [hq1] at hone
          cases h : decide (q2 < 0) with
          | false => rfl
          | true => rw [h] at hone; exact absurd hone (by decide)
        clear hone
        go_wp2_with fail
        refine (alive_calls _).mono ?_
        rintro E w9 ⟨rfl, hb⟩
        have HS9 := HS8.below hb
        go_wp2
        go_ret
        exact ⟨rfl, HS9.hb⟩
  · generalize pairVal ea sa la eb sb lb = v at *
    have hv : (v == 0) = false := beq_eq_false_iff_ne.2 hp
    have hv2 : (v != 0) = true := bne_iff_ne.2 hp
    clear hp
    generalize (apVal ea sa la eb sb lb).isSome = is at *
    generalize (apVal ea sa la eb sb lb).getD [] = wd at *
    clear hra hrb hca hcb
    go_enter Try.func12, Try.ntmps12
    go_upto_region 1 with (fail)
    have HS := ((Bx.start w).alloc #[.int .i64 ea, .int .i64 sa, .slice A la.length ca]).alloc #[.int .i64 eb, .int .i64 sb, .slice B lb.length cb]
    have hsz : (w.alloc (.cells #[.int .i64 ea, .int .i64 sa, .slice A la.length ca] 24)).heap.size = w.heap.size + 1 := by simp
    rw [hsz] at HS
    clear hsz
    generalize ((w.alloc (.cells #[.int .i64 ea, .int .i64 sa, .slice A la.length ca] 24)).alloc (.cells #[.int .i64 eb, .int .i64 sb, .slice B lb.length cb] 24)) = w0 at *
    obtain ⟨hc0, hc1, hc2⟩ := HS.cell (b := w.heap.size) mem1
    obtain ⟨hd0, hd1, hd2⟩ := HS.cell (b := w.heap.size + 1) List.mem_cons_self
    go_wp2_with fail
    refine (H1.out _ HS.hb).mono ?_
    rintro E w1 ⟨A2, c2, _, rfl, _, hb⟩
    have HS1 := HS.below hb
    clear hb HS hc0 hc1 hc2 hd0 hd1 hd2 H1
    go_wp2_with fail
    refine (alive_calls _).mono ?_
    rintro E w9 ⟨rfl, hb⟩
    have HS9 := HS1.below hb
    go_wp2
    go_ret
    exact ⟨rfl, HS9.hb⟩
end Go.Proofs.Ytmphigeefppfpaa.H
