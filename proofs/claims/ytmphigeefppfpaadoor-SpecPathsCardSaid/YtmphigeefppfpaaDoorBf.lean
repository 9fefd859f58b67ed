/- Lists of needs: slices.IndexFunc, slices.ContainsFunc, and the closure of Satisfied. -/
import Derived.Test.YtmphigeefppfpaaDoorBe
namespace Go.Proofs.YtmphigeefppfpaaDoor.H
open Go.RowKit Go.Proofs.YtmphigeefppfpaaDoorW.PrintWords Go.Proofs.YtmphigeefppfpaaDoorW.PrintLast Go.Proofs.YtmphigeefppfpaaDoorW.PrintMore
set_option linter.unusedVariables false

abbrev Nd := Q.S78
def zN : Nd := ⟨0, 0⟩
/-- A need as a value. -/
def vN (x : Nd) : Value := .agg #[.int .i64 x.f0, .int .i64 x.f1]
theorem at_need {w : World} {A : Option Addr} {n : Nat} {xs : List Nd} (h : Kd.C Q.k78 w A n xs) (i : Nat) (hi : i < n) :
    ∃ ad, A = some ad ∧ w.cell? (ad.add (i * 2)) = some (.int .i64 (xs.getD i zN).f0) ∧ w.cell? ⟨(ad.add (i * 2)).block, (ad.add (i * 2)).off + 1, none⟩ = some (.int .i64 (xs.getD i zN).f1) := by
  obtain ⟨ad, c, e, _, hK, hc0⟩ := Kd.C_get h zN (i : Int) (by omega) (by omega)
  have hc : ∀ j u, c[j]? = some u → w.cell? (ad.add (i * 2 + j)) = some u := fun j u hj => by have := hc0 j u hj; rwa [Int.toNat_natCast] at this
  obtain ⟨_, _, rfl, rfl, rfl⟩ := hK
  refine ⟨ad, e, by have := hc 0 _ rfl; rwa [Nat.add_zero] at this, by rw [← add_field _ _ 1 (by omega)]; exact hc 1 _ rfl⟩
theorem at_sl {α : Type} {d : Kd α} {e : Nat} {w : World} {A : Option Addr} {n : Nat} {xs : List (List α)} (h : Kd.C (Kd.slice e d) w A n xs) (i : Nat) (hi : i < n) :
    ∃ ad A0 c0, A = some ad ∧ w.cell? (ad.add i) = some (.slice A0 (xs.getD i []).length c0) ∧ (xs.getD i []).length ≤ c0 ∧ d.C w A0 (xs.getD i []).length (xs.getD i []) := by
  obtain ⟨ad, c, e, _, hK, hc0⟩ := Kd.C_get h [] (i : Int) (by omega) (by omega)
  have hc : ∀ j u, c[j]? = some u → w.cell? (ad.add (i * 1 + j)) = some u := fun j u hj => by have := hc0 j u hj; rwa [Int.toNat_natCast] at this
  obtain ⟨A0, c0, rfl, l0, g0⟩ := hK
  exact ⟨ad, A0, c0, e, by have hq := hc 0 _ rfl; rwa [Nat.mul_one, Nat.add_zero] at hq, l0, g0⟩
def PredN (g : Nat) (lb : Array Value) (dom : Nd → Prop) (p : Nd → Bool) (w : World) : Prop :=
  ∀ (W : World) (x : Nd), Below w.heap.size w W → dom x → Calls Tryd.prog g (#[.agg #[.int .i64 x.f0, .int .i64 x.f1]] ++ lb) W fun e w' => e = .returned (.bool (p x)) ∧ Below W.heap.size W w'
theorem anyN_at {p : Nd → Bool} {xs : List Nd} {k : Nat} (h : k < xs.length) (hp : p (xs.getD k zN) = true) : xs.any p = true := by
  refine List.any_eq_true.2 ⟨xs[k], List.getElem_mem h, ?_⟩
  rwa [List.getD_eq_getElem?_getD, List.getElem?_eq_getElem h] at hp
theorem anyN_none {p : Nd → Bool} {xs : List Nd} (h : ∀ j : Nat, j < xs.length → p (xs.getD j zN) = false) : xs.any p = false := by
  refine List.any_eq_false.2 fun x hx => ?_
  obtain ⟨j, hj, rfl⟩ := List.getElem_of_mem hx
  have h2 := h j hj
  rw [List.getD_eq_getElem?_getD, List.getElem?_eq_getElem hj] at h2
  simpa using h2
theorem getD_memN {xs : List Nd} {k : Nat} (h : k < xs.length) : xs.getD k zN ∈ xs := by
  rw [List.getD_eq_getElem?_getD, List.getElem?_eq_getElem h]; exact List.getElem_mem h
set_option maxHeartbeats 2000000 in
theorem indexN_calls (A : Option Addr) (c : Nat) (xs : List Nd) (g : Nat) (lb : Array Value) (dom : Nd → Prop) (p : Nd → Bool) (w : World)
    (hr : Kd.C Q.k78 w A xs.length xs) (hd : ∀ x ∈ xs, dom x) (hp : PredN g lb dom p w)
    (eg : ∀ args w, (callFunc g args).run Tryd.prog w = .ok (.enter g args) w) :
    Calls Tryd.prog 43 #[.slice A xs.length c, .func (.func g) #[] lb] w fun e w' => ∃ r : Int, e = .returned (.int .i64 r) ∧ decide (r ≥ 0) = xs.any p ∧ Below w.heap.size w w' := by
  have HR := Aside0.mk hr
  have HP := Aside0.mk hp
  have HD := Aside0.mk hd
  have hm := hr.2.1
  clear hr hp hd
  go_enter Tryd.func43, Tryd.ntmps43
  go_wp2
  go_loopg [5, 8] xs.length (fun gg _ s8 wr => ∃ kk : Nat, kk ≤ xs.length ∧ xs.length - kk ≤ gg ∧ s8 = .int .i64 kk ∧ Aside0 (Below w.heap.size w wr) ∧ Aside0 (∀ j : Nat, j < kk → p (xs.getD j zN) = false))
  case atStart => exact ⟨0, Nat.zero_le _, by omega, rfl, ⟨Below.refl _ w⟩, ⟨fun j hj => absurd hj (Nat.not_lt_zero _)⟩⟩
  case round =>
    obtain ⟨kk, hkk, hg, rfl, BW, HA⟩ := hrel
    by_cases hlt : kk < xs.length
    · have hltz : (kk : Int) < (xs.length : Int) := by omega
      obtain ⟨ad, e0, hx0, hx1⟩ := at_need (HR.out) kk hlt
      cases e0
      replace hx0 := pw_cell_below BW.out hx0
      replace hx1 := pw_cell_below BW.out hx1
      have hcall := HP.out wr (xs.getD kk zN) BW.out (HD.out _ (getD_memN hlt))
      generalize hy : xs.getD kk zN = y at hx0 hx1 hcall
      have HY := Aside0.mk hy
      clear hy
      cases hq : p y with
      | true =>
        rw [hq] at hcall
        have HQ := Aside0.mk hq
        clear hq
        go_wp2_with fail
        refine hcall.mono ?_
        rintro e w' ⟨rfl, hb'⟩
        have HB' := Aside0.mk hb'
        clear hb' hcall
        go_wp2
        go_ret
        refine ⟨(kk : Int), rfl, ?_, below_then BW.out (BW.out).size HB'.out⟩
        rw [anyN_at (k := kk) (by assumption) (by rw [HY.out]; exact HQ.out)]
        simp
      | false =>
        rw [hq] at hcall
        have HQ := Aside0.mk hq
        clear hq
        go_wp2_with fail
        refine hcall.mono ?_
        rintro e w' ⟨rfl, hb'⟩
        have HB' := Aside0.mk hb'
        clear hb' hcall
        go_wp2
        go_roundg (xs.length - (kk + 1))
        case measure => omega
        case rel =>
          refine ⟨kk + 1, by omega, by omega, by go_num, ⟨below_then BW.out (BW.out).size HB'.out⟩, ⟨fun j hj => ?_⟩⟩
          by_cases e : j = kk
          · subst e
            rw [HY.out]; exact HQ.out
          · exact HA.out j (by omega)
    · have hltz : ¬ (kk : Int) < (xs.length : Int) := by omega
      go_wp2
      go_ret
      refine ⟨-1, rfl, ?_, BW.out⟩
      rw [anyN_none (fun j hj => HA.out j (by omega))]
      rfl
theorem containsN_calls (A : Option Addr) (c : Nat) (xs : List Nd) (g : Nat) (lb : Array Value) (dom : Nd → Prop) (p : Nd → Bool) (w : World)
    (hr : Kd.C Q.k78 w A xs.length xs) (hd : ∀ x ∈ xs, dom x) (hp : PredN g lb dom p w)
    (eg : ∀ args w, (callFunc g args).run Tryd.prog w = .ok (.enter g args) w) :
    Calls Tryd.prog 34 #[.slice A xs.length c, .func (.func g) #[] lb] w fun e w' => e = .returned (.bool (xs.any p)) ∧ Below w.heap.size w w' := by
  have H := (indexN_calls A c xs g lb dom p w hr hd hp eg)
  clear hr hd hp
  go_enter Tryd.func34, Tryd.ntmps34
  go_wp2_with fail
  refine H.mono ?_
  rintro e w' ⟨r, rfl, hq, hb⟩
  have HQ := Aside0.mk hq
  have HB := Aside0.mk hb
  clear hq hb H
  go_wp2
  go_ret
  exact ⟨by rw [← HQ.out]; rfl, HB.out⟩
end Go.Proofs.YtmphigeefppfpaaDoor.H
