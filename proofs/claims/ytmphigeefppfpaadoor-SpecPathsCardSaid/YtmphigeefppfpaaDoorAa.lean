/- What sauto_calls, alive_calls, leastRows_is, isLeast_lq, isLeast_ok, least_ok, spec_table needs, out of my texts, by a program (slim.py). -/
import Derived.Test.YtmphigeefppfpaaDoorProg
import Derived.Below
import Derived.Deep.Draws
import Derived.Deep.AppendLies
import Derived.Maps.AppendAt
import Derived.OwnWalk
import Derived.Laws.BytesArg
import Derived.Laws.MakeOwn
import Derived.Laws.OwnMore
import Derived.Deep.OwnRows
import Derived.Tactics
import Derived.Lib.ConvBytes
import Derived.Laws.Slices
import Derived.WalkKit
import Derived.KernelRfl
import Derived.RowKit3
import Derived.Deep.LoopGhost
import Derived.Deep.QuietTactic
import Derived.BigQuiet
import Derived.WideLaws
import Derived.Deep.DeepCutAuto
import Derived.Deep.CutBlock
import Derived.Deep.RegionHeld3
import Derived.Laws.Rows
import Derived.Lib.AppendStr
import Derived.ArgAppend
import Derived.Laws.IdiomCopy
import Derived.OrdersHeld
import Derived.Laws.BitsLemmas
import Derived.RowKit
import Derived.Test.YtmphigeefppfpaaDoorWWords
import Derived.Test.YtmphigeefppfpaaDoorWLast
import Derived.Test.YtmphigeefppfpaaDoorWTab
import Derived.Test.YtmphigeefppfpaaDoorWFour
import Derived.Test.YtmphigeefppfpaaDoorWQPut
import Derived.Test.YtmphigeefppfpaaDoorWApart
import Derived.Test.YtmphigeefppfpaaDoorWArr
import Derived.Test.YtmphigeefppfpaaDoorWZeros
import Derived.Test.YtmphigeefppfpaaDoorWFoot
import Derived.Test.YtmphigeefppfpaaDoorWKept
import Derived.Test.YtmphigeefppfpaaDoorWShare
import Derived.Test.YtmphigeefppfpaaDoorWN
import Derived.Test.YtmphigeefppfpaaDoorWFootNe
import Derived.Test.YtmphigeefppfpaaDoorWAt
import Derived.Test.YtmphigeefppfpaaDoorWEqStruct
import Derived.Test.YtmphigeefppfpaaDoorWRepsOne
import Derived.Test.YtmphigeefppfpaaDoorWInv
import Derived.Test.YtmphigeefppfpaaDoorWInvWords
import Derived.Test.YtmphigeefppfpaaDoorWGuard
import Derived.Test.YtmphigeefppfpaaDoorWNEv
import Derived.Test.YtmphigeefppfpaaDoorWMore
import Derived.Maps.OwnSet
import Derived.DeepKeys4
import Derived.Laws.ResultCell
import Derived.WalkSpells
import Derived.Outline
namespace Go.Proofs.YtmphigeefppfpaaDoor.Q
open Go.RowKit Go.Proofs.YtmphigeefppfpaaDoorW.PrintWords Go.Proofs.YtmphigeefppfpaaDoorW.PrintLast Go.Proofs.YtmphigeefppfpaaDoorW.PrintMore
attribute [local go_sem] max2_int min2_int max_two min_two max_three min_three max_four min_four
set_option linter.unusedVariables false
set_option linter.unusedSimpArgs false
theorem info3 : (Tryd.prog.info? 3).map (fun i => (i.zero, i.size, i.bytes)) = some (some (.int .i64 0), 1, 8) := by kernel_rfl
theorem info25 : (Tryd.prog.info? 25).map (fun i => (i.zero, i.size, i.bytes)) = some (some (.slice none 0 0), 1, 24) := by kernel_rfl
def rd_L1 (xs : List (List Int)) (i : Int) : (List Int) := xs.getD i.toNat ([] : List Int)
theorem at_L1 {w : World} {A : Option Addr} {n : Nat} {xs : List (List Int)} (h : Kd.C (Kd.slice 3 (Kd.int .i64)) w A n xs) (i : Int) (h0 : 0 ≤ i) (h1 : i < n) : ∃ ad A0 c0, A = some ad ∧ w.cell? (ad.add i.toNat) = some (.slice A0 (rd_L1 xs i).length c0) ∧ (rd_L1 xs i).length ≤ c0 ∧ (Kd.int .i64).C w A0 (rd_L1 xs i).length (rd_L1 xs i) := by
  obtain ⟨ad, c, e, _, hK, hc0⟩ := Kd.C_get h ([] : List Int) i h0 h1
  have hc : ∀ j u, c[j]? = some u → w.cell? (ad.add (i.toNat * 1 + j)) = some u := hc0
  obtain ⟨A0, c0, rfl, l0, g0⟩ := hK
  exact ⟨ad, A0, c0, e, by have hq := hc 0 _ rfl; rwa [Nat.mul_one, Nat.add_zero] at hq, l0, g0⟩
structure S78 where
  f0 : Int
  f1 : Int
def k78 : Kd S78 := Kd.iso (Kd.pair (Kd.int .i64) (Kd.int .i64)) (fun x : S78 => (x.f0, x.f1))
theorem k78_mkM (w : World) (base : Nat) (ok : Nat → Prop) (x : S78)  : k78.M w base ok x [.int .i64 x.f0, .int .i64 x.f1] := ⟨[.int .i64 x.f0], [.int .i64 x.f1], rfl, rfl, rfl⟩
end Go.Proofs.YtmphigeefppfpaaDoor.Q
namespace Go.Proofs.YtmphigeefppfpaaDoor.H
open Go.RowKit Go.Proofs.YtmphigeefppfpaaDoorW.PrintWords Go.Proofs.YtmphigeefppfpaaDoorW.PrintLast Go.Proofs.YtmphigeefppfpaaDoorW.PrintMore
def PredW (g : Nat) (lb : Array Value) (enc : Int → Value) (dom : Int → Prop) (p : Int → Bool) (w : World) : Prop :=
  ∀ (W : World) (x : Int), Below w.heap.size w W → dom x → Calls Tryd.prog g (#[enc x] ++ lb) W fun e w' => e = .returned (.bool (p x)) ∧ Below W.heap.size W w'
def idxOf (p : Int → Bool) : List Int → Int
  | [] => -1
  | x :: xs => if p x then 0 else if idxOf p xs < 0 then -1 else idxOf p xs + 1
theorem any_of_at {p : Int → Bool} {xs : List Int} {k : Nat} (h : k < xs.length) (hp : p (rd xs k) = true) : xs.any p = true := by
  refine List.any_eq_true.2 ⟨xs[k], List.getElem_mem h, ?_⟩
  have : rd xs (k : Int) = xs[k] := by simp [rd, List.getD_eq_getElem?_getD, List.getElem?_eq_getElem h]
  rw [← this]; exact hp
theorem any_of_none {p : Int → Bool} {xs : List Int} (h : ∀ j : Nat, j < xs.length → p (rd xs j) = false) : xs.any p = false := by
  refine List.any_eq_false.2 fun x hx => ?_
  obtain ⟨j, hj, rfl⟩ := List.getElem_of_mem hx
  have h2 := h j hj
  have : rd xs (j : Int) = xs[j] := by simp [rd, List.getD_eq_getElem?_getD, List.getElem?_eq_getElem hj]
  rw [this] at h2
  simp [h2]
theorem rd_mem {xs : List Int} {k : Nat} (h : k < xs.length) : rd xs (k : Int) ∈ xs := by
  have : rd xs (k : Int) = xs[k] := by simp [rd, List.getD_eq_getElem?_getD, List.getElem?_eq_getElem h]
  rw [this]; exact List.getElem_mem h
set_option maxHeartbeats 2000000 in
theorem indexFunc_calls (A : Option Addr) (c : Nat) (xs : List Int) (g : Nat) (lb : Array Value) (dom : Int → Prop) (p : Int → Bool) (w : World)
    (hr : Kd.C (Kd.int .i64) w A xs.length xs) (hd : ∀ x ∈ xs, dom x) (hp : PredW g lb (Value.int .i64) dom p w)
    (eg : ∀ args w, (callFunc g args).run Tryd.prog w = .ok (.enter g args) w) :
    Calls Tryd.prog 23 #[.slice A xs.length c, .func (.func g) #[] lb] w fun e w' => ∃ r : Int, e = .returned (.int .i64 r) ∧ decide (r ≥ 0) = xs.any p ∧ Below w.heap.size w w' := by
  have HR := Aside0.mk hr
  have HP := Aside0.mk hp
  have HD := Aside0.mk hd
  have hm := hr.2.1
  clear hr hp hd
  go_enter Tryd.func23, Tryd.ntmps23
  go_wp2
  go_loopg [5, 8] xs.length (fun gg _ s8 wr => ∃ kk : Nat, kk ≤ xs.length ∧ xs.length - kk ≤ gg ∧ s8 = .int .i64 kk ∧ Aside0 (Below w.heap.size w wr) ∧ Aside0 (∀ j : Nat, j < kk → p (rd xs j) = false))
  case atStart => exact ⟨0, Nat.zero_le _, by omega, rfl, ⟨Below.refl _ w⟩, ⟨fun j hj => absurd hj (Nat.not_lt_zero _)⟩⟩
  case round =>
    obtain ⟨kk, hkk, hg, rfl, BW, HA⟩ := hrel
    by_cases hlt : kk < xs.length
    · have hltz : (kk : Int) < (xs.length : Int) := by omega
      obtain ⟨ad, e0, hx⟩ := Kd.at_int (HR.out) (kk : Int) (by omega) hltz
      rw [Int.toNat_natCast] at hx
      cases e0
      have hx' := pw_cell_below BW.out hx
      clear hx
      have hcall := HP.out wr (rd xs kk) BW.out (HD.out _ (rd_mem hlt))
      generalize hy : rd xs (kk : Int) = y at hx' hcall
      have HY := Aside0.mk hy
      clear hy
      cases hq : p y with
      | true =>
        rw [hq] at hcall
        have HQ := Aside0.mk hq
        clear hq
        go_wp2_with fail
        refine hcall.mono ?_
        rintro e w' ⟨rfl, hb'⟩
        have HB' := Aside0.mk hb'
        clear hb' hcall
        go_wp2
        go_ret
        refine ⟨(kk : Int), rfl, ?_, below_then BW.out (BW.out).size HB'.out⟩
        rw [any_of_at (k := kk) (by assumption) (by rw [HY.out]; exact HQ.out)]
        simp
      | false =>
        rw [hq] at hcall
        have HQ := Aside0.mk hq
        clear hq
        go_wp2_with fail
        refine hcall.mono ?_
        rintro e w' ⟨rfl, hb'⟩
        have HB' := Aside0.mk hb'
        clear hb' hcall
        go_wp2
        go_roundg (xs.length - (kk + 1))
        case measure => omega
        case rel =>
          refine ⟨kk + 1, by omega, by omega, by go_num, ⟨below_then BW.out (BW.out).size HB'.out⟩, ⟨fun j hj => ?_⟩⟩
          by_cases e : j = kk
          · subst e
            rw [HY.out]; exact HQ.out
          · exact HA.out j (by omega)
    · have hltz : ¬ (kk : Int) < (xs.length : Int) := by omega
      go_wp2
      go_ret
      refine ⟨-1, rfl, ?_, BW.out⟩
      rw [any_of_none (fun j hj => HA.out j (by omega))]
      rfl
set_option maxHeartbeats 2000000 in
theorem containsFunc_calls (A : Option Addr) (c : Nat) (xs : List Int) (g : Nat) (lb : Array Value) (dom : Int → Prop) (p : Int → Bool) (w : World)
    (hr : Kd.C (Kd.int .i64) w A xs.length xs) (hd : ∀ x ∈ xs, dom x) (hp : PredW g lb (Value.int .i64) dom p w)
    (eg : ∀ args w, (callFunc g args).run Tryd.prog w = .ok (.enter g args) w) :
    Calls Tryd.prog 11 #[.slice A xs.length c, .func (.func g) #[] lb] w fun e w' => e = .returned (.bool (xs.any p)) ∧ Below w.heap.size w w' := by
  have H := (indexFunc_calls A c xs g lb dom p w hr hd hp eg)
  clear hr hd hp
  go_enter Tryd.func11, Tryd.ntmps11
  go_wp2_with fail
  refine H.mono ?_
  rintro e w' ⟨r, rfl, hq, hb⟩
  have HQ := Aside0.mk hq
  have HB := Aside0.mk hb
  clear hq hb H
  go_wp2
  go_ret
  exact ⟨by rw [← HQ.out]; rfl, HB.out⟩
theorem check1_calls (x n : Int) (b : Addr) (w : World) (hc : w.cell? b = some (.int .i64 n)) :
    Calls Tryd.prog 22 #[.int .i64 x, .pointer (some b)] w fun e w' => e = .returned (.bool (decide (x < -1) || decide (x ≥ n))) ∧ Below w.heap.size w w' := by
  by_cases h1 : x < -1
  · have h2 : decide (x < -1) = true := by simpa using h1
    have H2 := Aside0.mk h2
    clear h1
    go_enter Tryd.func22, Tryd.ntmps22
    go_wp2
    repeat (go_quiet (fail); try go_wp2)
    go_ret
    exact ⟨by rw [H2.out]; rfl, Below.refl _ _⟩
  · have h2 : decide (x < -1) = false := by simpa using h1
    have H2 := Aside0.mk h2
    clear h1
    go_enter Tryd.func22, Tryd.ntmps22
    go_wp2
    repeat (go_quiet (fail); try go_wp2)
    go_ret
    exact ⟨by rw [H2.out, Bool.false_or]; rfl, Below.refl _ _⟩
def headOk (ev st : Int) (n : Nat) : Bool := decide (0 ≤ ev) && decide (ev ≤ 16) && decide (1 ≤ n) && decide (n ≤ 64) && decide (0 ≤ st) && decide (st < (n : Int))
def rowOk (ev : Int) (n : Nat) (r : List Int) : Bool := decide ((r.length : Int) = ev) && r.all fun q => decide (-1 ≤ q) && decide (q < (n : Int))
def specOk (ev st : Int) (l : List (List Int)) : Bool := headOk ev st l.length && l.all (rowOk ev l.length)
theorem headOk_false {ev st : Int} {n : Nat} (h : headOk ev st n = false) : ev < 0 ∨ (¬ ev < 0 ∧ ev > 16) ∨ (¬ ev < 0 ∧ ¬ ev > 16 ∧ (n : Int) < 1) ∨ (¬ ev < 0 ∧ ¬ ev > 16 ∧ ¬ (n : Int) < 1 ∧ (n : Int) > 64) ∨ (¬ ev < 0 ∧ ¬ ev > 16 ∧ ¬ (n : Int) < 1 ∧ ¬ (n : Int) > 64 ∧ st < 0) ∨ (¬ ev < 0 ∧ ¬ ev > 16 ∧ ¬ (n : Int) < 1 ∧ ¬ (n : Int) > 64 ∧ ¬ st < 0 ∧ st ≥ (n : Int)) := by
  simp only [headOk, Bool.and_eq_false_iff, decide_eq_false_iff_not] at h
  omega
theorem headOk_true {ev st : Int} {n : Nat} (h : headOk ev st n = true) : ¬ ev < 0 ∧ ¬ ev > 16 ∧ ¬ (n : Int) < 1 ∧ ¬ (n : Int) > 64 ∧ ¬ st < 0 ∧ ¬ st ≥ (n : Int) := by
  simp only [headOk, Bool.and_eq_true, decide_eq_true_eq] at h
  omega
theorem check_bad (ev st : Int) (A : Option Addr) (c : Nat) (l : List (List Int)) (w : World) (h : headOk ev st l.length = false) :
    Calls Tryd.prog 9 #[.agg #[.int .i64 ev, .int .i64 st, .slice A l.length c]] w fun e w' => e = .returned (.int .i64 11) ∧ Below w.heap.size w w' := by
  rcases headOk_false h with h0 | ⟨h0, h1⟩ | ⟨h0, h1, h2⟩ | ⟨h0, h1, h2, h3⟩ | ⟨h0, h1, h2, h3, h4⟩ | ⟨h0, h1, h2, h3, h4, h5⟩
  all_goals
    clear h
    go_enter Tryd.func9, Tryd.ntmps9
    go_wp2
    go_ret
    exact ⟨rfl, by repeat (first | exact Below.refl _ _ | apply below_alloc | apply pw_below_drewN | apply below_drew1)⟩
theorem rowOk_any (ev : Int) (n : Nat) (r : List Int) (h : (r.length : Int) = ev) : rowOk ev n r = !(r.any fun q => decide (q < -1) || decide (q ≥ (n : Int))) := by
  simp only [rowOk, h, decide_true, Bool.true_and, List.all_eq_not_any_not]
  congr 2
  funext q
  rw [Bool.eq_iff_iff]
  simp
theorem all_of_at {α : Type} {p : α → Bool} {xs : List α} (d : α) (h : ∀ j : Nat, j < xs.length → p (xs.getD j d) = true) : xs.all p = true := by
  refine List.all_eq_true.2 fun x hx => ?_
  obtain ⟨j, hj, rfl⟩ := List.getElem_of_mem hx
  have h2 := h j hj
  rwa [List.getD_eq_getElem?_getD, List.getElem?_eq_getElem hj] at h2
theorem all_of_none {α : Type} {p : α → Bool} {xs : List α} (d : α) {j : Nat} (hj : j < xs.length) (h : p (xs.getD j d) = false) : xs.all p = false := by
  refine List.all_eq_false.2 ⟨xs[j], List.getElem_mem hj, ?_⟩
  rw [List.getD_eq_getElem?_getD, List.getElem?_eq_getElem hj] at h
  simpa using h
theorem blk_at2 (w : World) (o o' : Obj) : ((w.alloc o).alloc o').heap[w.heap.size + 1]? = some o' := by
  have h := blk_new (w.alloc o) o'
  rwa [show (w.alloc o).heap.size = w.heap.size + 1 from by simp] at h
theorem run_mkfun (fn : Fn) (first cap : Array Value) (w : World) : (Instr.makeFunc fn first cap).run Tryd.prog w = .ok (.func fn first cap) w := rfl
theorem check1_pred (n : Int) (b : Addr) (w : World) (hc : w.cell? b = some (.int .i64 n)) : PredW 22 #[.pointer (some b)] (Value.int .i64) (fun _ => True) (fun q => decide (q < -1) || decide (q ≥ n)) w :=
  fun _ x hb _ => check1_calls x n b _ (pw_cell_below hb hc)
def checkRes (ev : Int) (l : List (List Int)) : Int := if l.all (rowOk ev l.length) then 0 else 11
set_option maxHeartbeats 2000000 in
theorem check_good (ev st : Int) (A : Option Addr) (c : Nat) (l : List (List Int)) (w : World) (hr : Kd.C (Kd.slice 3 (Kd.int .i64)) w A l.length l) (h : headOk ev st l.length = true) :
    Calls Tryd.prog 9 #[.agg #[.int .i64 ev, .int .i64 st, .slice A l.length c]] w fun e w' => e = .returned (.int .i64 (checkRes ev l)) ∧ Below w.heap.size w w' := by
  obtain ⟨h0, h1, h2, h3, h4, h5⟩ := headOk_true h
  have HR := Aside0.mk hr
  have hm := hr.2.1
  have hmf := run_mkfun
  clear h hr
  go_enter Tryd.func9, Tryd.ntmps9
  go_wp2
  go_loopg [39] l.length (fun gg v39 wr => ∃ kk : Nat, kk ≤ l.length ∧ l.length - kk ≤ gg ∧ v39 = .int .i64 kk ∧ Aside0 (Below w.heap.size w wr) ∧ Aside0 (wr.heap[w.heap.size]? = some (.cells #[.int .i64 ev, .int .i64 st, .slice A l.length c] 24 (0, 0))) ∧ Aside0 (wr.heap[w.heap.size + 1]? = some (.cells #[.int .i64 (l.length : Int)] 3 (0, 0))) ∧ Aside0 (∀ j : Nat, j < kk → rowOk ev l.length (l.getD j []) = true))
  case atStart => exact ⟨0, Nat.zero_le _, by omega, rfl, ⟨by repeat (first | exact Below.refl _ _ | apply below_alloc | apply pw_below_drewN | apply below_drew1)⟩, ⟨blk_alloc (blk_new _ _) _⟩, ⟨blk_at2 _ _ _⟩, ⟨fun j hj => absurd hj (Nat.not_lt_zero _)⟩⟩
  case round =>
    obtain ⟨kk, hkk, hg, rfl, BW, HX, HN, HA⟩ := hrel
    by_cases hlt : kk < l.length
    · have hltz : (kk : Int) < (l.length : Int) := by omega
      obtain ⟨ad, A0, c0, e0, hx, hl0, hr0⟩ := Q.at_L1 (Kd.C_below HR.out BW.out) (kk : Int) (by omega) hltz
      cases e0
      rw [Int.toNat_natCast] at hx
      have HRow := Aside0.mk hr0
      clear hr0
      have hz0 : wr.cell? ⟨w.heap.size, 0, none⟩ = some (.int .i64 ev) := (blk_cell HX.out 0).trans rfl
      generalize hy : Q.rd_L1 l (kk : Int) = y at hx HRow hl0
      have HY := Aside0.mk (show l.getD kk [] = y by rw [← hy]; simp [Q.rd_L1])
      clear hy
      by_cases hlen : (y.length : Int) = ev
      · have d0 : ((y.length : Int) == ev) = true := beq_iff_eq.2 hlen
        have d1 : ((y.length : Int) != ev) = false := bne_eq_false_iff_eq.2 hlen
        have HL := Aside0.mk hlen
        have hnn : wr.cell? ⟨w.heap.size + 1, 0, none⟩ = some (.int .i64 (l.length : Int)) := (blk_cell HN.out 0).trans rfl
        have HC := Aside0.mk (containsFunc_calls A0 c0 y 22 #[.pointer (some ⟨w.heap.size + 1, 0, none⟩)] (fun _ => True) _ wr HRow.out (fun _ _ => trivial) (check1_pred _ _ _ hnn) (fun _ _ => rfl))
        clear hlen hnn
        have HRO := Aside0.mk (rowOk_any ev l.length y HL.out)
        cases hq : (y.any fun q => decide (q < -1) || decide (q ≥ (l.length : Int))) with
        | true =>
          rw [hq] at HC HRO
          clear hq
          go_wp2_with fail
          refine HC.out.mono ?_
          rintro e w' ⟨rfl, hb'⟩
          have HB' := Aside0.mk hb'
          clear hb' HC
          go_wp2
          go_ret
          refine ⟨?_, below_then BW.out (BW.out).size HB'.out⟩
          rw [checkRes, all_of_none [] (by assumption) (by rw [HY.out, HRO.out]; rfl)]
          rfl
        | false =>
          rw [hq] at HC HRO
          clear hq
          go_wp2_with fail
          refine HC.out.mono ?_
          rintro e w' ⟨rfl, hb'⟩
          have HB' := Aside0.mk hb'
          clear hb' HC
          go_wp2
          go_roundg (l.length - (kk + 1))
          case measure => omega
          case rel =>
            refine ⟨kk + 1, by omega, by omega, by go_num, ⟨below_then BW.out (BW.out).size HB'.out⟩, ⟨blk_below HX.out HB'.out⟩, ⟨blk_below HN.out HB'.out⟩, ⟨fun j hj => ?_⟩⟩
            by_cases e : j = kk
            · subst e
              rw [HY.out]; exact HRO.out
            · exact HA.out j (by omega)
      · have d0 : ((y.length : Int) == ev) = false := beq_eq_false_iff_ne.2 hlen
        have d1 : ((y.length : Int) != ev) = true := bne_iff_ne.2 hlen
        have HL := Aside0.mk hlen
        clear hlen
        go_wp2
        go_ret
        refine ⟨?_, BW.out⟩
        rw [checkRes, all_of_none [] (by assumption) (by rw [HY.out, rowOk, decide_eq_false HL.out]; rfl)]
        rfl
    · have hltz : ¬ (kk : Int) < (l.length : Int) := by omega
      go_wp2
      go_ret
      refine ⟨?_, BW.out⟩
      rw [checkRes, all_of_at [] (fun j hj => HA.out j (by omega))]
      rfl
def checkVal (ev st : Int) (l : List (List Int)) : Int := if specOk ev st l then 0 else 11
theorem check_calls (ev st : Int) (A : Option Addr) (c : Nat) (l : List (List Int)) (w : World) (hr : Kd.C (Kd.slice 3 (Kd.int .i64)) w A l.length l) :
    Calls Tryd.prog 9 #[.agg #[.int .i64 ev, .int .i64 st, .slice A l.length c]] w fun e w' => e = .returned (.int .i64 (checkVal ev st l)) ∧ Below w.heap.size w w' := by
  cases h : headOk ev st l.length with
  | true =>
    rw [show checkVal ev st l = checkRes ev l from by simp [checkVal, checkRes, specOk, h]]
    exact check_good ev st A c l w hr h
  | false =>
    rw [show checkVal ev st l = 11 from by simp [checkVal, specOk, h]]
    exact check_bad ev st A c l w h
def stepAt (l : List (List Int)) (q x : Int) : Int := rd (Q.rd_L1 l q) x
def readFrom (l : List (List Int)) : Int → Nat → List Int → Int × Nat
  | q, i, [] => (q, i)
  | q, i, x :: xs => if stepAt l q x < 0 then (-1, i) else readFrom l (stepAt l q x) (i + 1) xs
def evBad (ev x : Int) : Bool := decide (x < 0) || decide (x ≥ ev)
theorem specOk_head {ev st : Int} {l : List (List Int)} (h : specOk ev st l = true) : headOk ev st l.length = true := by
  simp only [specOk, Bool.and_eq_true] at h; exact h.1
theorem specOk_row {ev st : Int} {l : List (List Int)} (h : specOk ev st l = true) {q : Int} (h0 : 0 ≤ q) (h1 : q < l.length) : (((Q.rd_L1 l q).length : Int) = ev) ∧ ∀ x ∈ Q.rd_L1 l q, -1 ≤ x ∧ x < l.length := by
  simp only [specOk, Bool.and_eq_true, List.all_eq_true] at h
  have hq : q.toNat < l.length := by omega
  have h2 := h.2 (Q.rd_L1 l q) (by simp [Q.rd_L1, List.getD_eq_getElem?_getD, List.getElem?_eq_getElem hq])
  simp only [rowOk, Bool.and_eq_true, decide_eq_true_eq, List.all_eq_true] at h2
  exact h2
theorem rd_mem' {xs : List Int} {x : Int} (h0 : 0 ≤ x) (h : x < xs.length) : rd xs x ∈ xs := by
  have hq : x.toNat < xs.length := by omega
  simp [rd, List.getD_eq_getElem?_getD, List.getElem?_eq_getElem hq]
theorem stepAt_range {ev st : Int} {l : List (List Int)} (h : specOk ev st l = true) {q x : Int} (h0 : 0 ≤ q) (h1 : q < l.length) (hx0 : 0 ≤ x) (hx1 : x < ev) : -1 ≤ stepAt l q x ∧ stepAt l q x < l.length := by
  obtain ⟨hl, hm⟩ := specOk_row h h0 h1
  exact hm _ (rd_mem' hx0 (by omega))
theorem read1_calls (x ev : Int) (b : Nat) (w : World) (hc : w.cell? ⟨b, 0, none⟩ = some (.int .i64 ev)) :
    Calls Tryd.prog 27 #[.int .i64 x, .pointer (some ⟨b, 0, none⟩)] w fun e w' => e = .returned (.bool (evBad ev x)) ∧ Below w.heap.size w w' := by
  by_cases h1 : x < 0
  · have h2 : decide (x < 0) = true := by simpa using h1
    have H2 := Aside0.mk h2
    clear h1
    go_enter Tryd.func27, Tryd.ntmps27
    go_wp2
    repeat (go_quiet (fail); try go_wp2)
    go_ret
    exact ⟨by rw [evBad, H2.out]; rfl, Below.refl _ _⟩
  · have h2 : decide (x < 0) = false := by simpa using h1
    have H2 := Aside0.mk h2
    clear h1
    go_enter Tryd.func27, Tryd.ntmps27
    go_wp2
    repeat (go_quiet (fail); try go_wp2)
    go_ret
    exact ⟨by rw [evBad, H2.out, Bool.false_or]; rfl, Below.refl _ _⟩
theorem read1_pred (ev : Int) (b : Nat) (w : World) (hc : w.cell? ⟨b, 0, none⟩ = some (.int .i64 ev)) : PredW 27 #[.pointer (some ⟨b, 0, none⟩)] (Value.int .i64) (fun _ => True) (evBad ev) w :=
  fun _ x hb _ => read1_calls x ev b _ (pw_cell_below hb hc)
def readVal (ev st : Int) (l : List (List Int)) (xs : List Int) : Int × Int × Int :=
  if specOk ev st l = false then (0, 0, 11) else if xs.length > 4096 then (0, 0, 3) else if xs.any (evBad ev) then (0, 0, 2) else ((readFrom l st 0 xs).1, ((readFrom l st 0 xs).2 : Int), 0)
set_option maxHeartbeats 1000000 in
theorem read_bad (ev st : Int) (A : Option Addr) (c : Nat) (l : List (List Int)) (A1 : Option Addr) (c1 : Nat) (xs : List Int) (w : World) (hr : Kd.C (Kd.slice 3 (Kd.int .i64)) w A l.length l) (h : specOk ev st l = false) :
    Calls Tryd.prog 19 #[.agg #[.int .i64 ev, .int .i64 st, .slice A l.length c], .slice A1 xs.length c1] w fun e w' => e = .returned (.tuple #[.int .i64 0, .int .i64 0, .int .i64 11]) ∧ Below w.heap.size w w' := by
  have HC := fun W (hW : Below w.heap.size w W) => check_calls ev st A c l W (Kd.C_below hr hW)
  rw [show checkVal ev st l = 11 from by simp [checkVal, h]] at HC
  have HC := Aside0.mk HC
  clear hr h
  go_enter Tryd.func19, Tryd.ntmps19
  go_wp2_with fail
  refine (HC.out _ (by repeat (first | exact Below.refl _ _ | apply below_alloc | apply pw_below_drewN | apply below_drew1))).mono ?_
  rintro e w' ⟨rfl, hb'⟩
  have HB' := Aside0.mk hb'
  clear hb' HC
  go_wp2
  go_ret3
  exact ⟨rfl, below_then (below_alloc (Below.refl _ _) _) (by simp) HB'.out⟩
set_option maxHeartbeats 1000000 in
theorem read_long (ev st : Int) (A : Option Addr) (c : Nat) (l : List (List Int)) (A1 : Option Addr) (c1 : Nat) (xs : List Int) (w : World) (hr : Kd.C (Kd.slice 3 (Kd.int .i64)) w A l.length l) (h : specOk ev st l = true) (hx : xs.length > 4096) :
    Calls Tryd.prog 19 #[.agg #[.int .i64 ev, .int .i64 st, .slice A l.length c], .slice A1 xs.length c1] w fun e w' => e = .returned (.tuple #[.int .i64 0, .int .i64 0, .int .i64 3]) ∧ Below w.heap.size w w' := by
  have HC := fun W (hW : Below w.heap.size w W) => check_calls ev st A c l W (Kd.C_below hr hW)
  rw [show checkVal ev st l = 0 from by simp [checkVal, h]] at HC
  have HC := Aside0.mk HC
  clear hr h
  have hx' : (4096 : Int) < (xs.length : Int) := by omega
  go_enter Tryd.func19, Tryd.ntmps19
  go_wp2_with fail
  refine (HC.out _ (by repeat (first | exact Below.refl _ _ | apply below_alloc | apply pw_below_drewN | apply below_drew1))).mono ?_
  rintro e w' ⟨rfl, hb'⟩
  have HB' := Aside0.mk hb'
  clear hb' HC
  go_wp2
  go_ret3
  exact ⟨rfl, below_then (below_alloc (Below.refl _ _) _) (by simp) HB'.out⟩
set_option maxHeartbeats 1000000 in
theorem read_arg (ev st : Int) (A : Option Addr) (c : Nat) (l : List (List Int)) (A1 : Option Addr) (c1 : Nat) (xs : List Int) (w : World) (hr : Kd.C (Kd.slice 3 (Kd.int .i64)) w A l.length l) (hr1 : Kd.C (Kd.int .i64) w A1 xs.length xs) (h : specOk ev st l = true) (hx : ¬ xs.length > 4096) (he : xs.any (evBad ev) = true) :
    Calls Tryd.prog 19 #[.agg #[.int .i64 ev, .int .i64 st, .slice A l.length c], .slice A1 xs.length c1] w fun e w' => e = .returned (.tuple #[.int .i64 0, .int .i64 0, .int .i64 2]) ∧ Below w.heap.size w w' := by
  have HC := fun W (hW : Below w.heap.size w W) => check_calls ev st A c l W (Kd.C_below hr hW)
  rw [show checkVal ev st l = 0 from by simp [checkVal, h]] at HC
  have HC := Aside0.mk HC
  have HF := fun W (hW : Below w.heap.size w W) (hn : W.cell? ⟨w.heap.size, 0, none⟩ = some (.int .i64 ev)) => containsFunc_calls A1 c1 xs 27 #[.pointer (some ⟨w.heap.size, 0, none⟩)] (fun _ => True) _ W (Kd.C_below hr1 hW) (fun _ _ => trivial) (read1_pred _ _ _ hn) (fun _ _ => rfl)
  rw [he] at HF
  have HF := Aside0.mk HF
  have hmf := run_mkfun
  clear hr h he hr1
  have hx' : ¬ (4096 : Int) < (xs.length : Int) := by omega
  go_enter Tryd.func19, Tryd.ntmps19
  go_wp2_with fail
  refine (HC.out _ (by repeat (first | exact Below.refl _ _ | apply below_alloc | apply pw_below_drewN | apply below_drew1))).mono ?_
  rintro e w' ⟨rfl, hb'⟩
  have HB' := Aside0.mk (below_then (below_alloc (Below.refl _ _) _) (by simp) hb')
  have HX := Aside0.mk (blk_below (blk_new _ _) hb')
  clear hb' HC
  go_wp2_with fail
  refine (HF.out _ HB'.out ((blk_cell HX.out 0).trans rfl)).mono ?_
  rintro e w'' ⟨rfl, hb'⟩
  have HB'' := Aside0.mk (below_then HB'.out (HB'.out).size hb')
  clear hb' HF HX
  go_wp2
  go_ret3
  exact ⟨rfl, HB''.out⟩
theorem readFrom_end (l : List (List Int)) (q : Int) (k : Nat) (xs : List Int) (h : ¬ k < xs.length) : readFrom l q k (xs.drop k) = (q, k) := by
  rw [List.drop_eq_nil_of_le (by omega), readFrom]
theorem readFrom_step (l : List (List Int)) (q : Int) (k : Nat) (xs : List Int) (h : k < xs.length) : readFrom l q k (xs.drop k) = if stepAt l q (rd xs k) < 0 then (-1, k) else readFrom l (stepAt l q (rd xs k)) (k + 1) (xs.drop (k + 1)) := by
  have e : rd xs (k : Int) = xs[k] := by simp [rd, List.getD_eq_getElem?_getD, List.getElem?_eq_getElem h]
  rw [List.drop_eq_getElem_cons h, readFrom, e]
def ReadEnd (l : List (List Int)) (st : Int) (xs : List Int) (w : World) (e : Ending) (w' : World) : Prop := e = .returned (.tuple #[.int .i64 (readFrom l st 0 xs).1, .int .i64 ((readFrom l st 0 xs).2 : Int), .int .i64 0]) ∧ Below w.heap.size w w'
set_option maxHeartbeats 1000000 in
theorem read_go (ev st : Int) (A : Option Addr) (c : Nat) (l : List (List Int)) (A1 : Option Addr) (c1 : Nat) (xs : List Int) (w : World) (hr : Kd.C (Kd.slice 3 (Kd.int .i64)) w A l.length l) (hr1 : Kd.C (Kd.int .i64) w A1 xs.length xs) (h : specOk ev st l = true) (hx : ¬ xs.length > 4096) (he : xs.any (evBad ev) = false) :
    Calls Tryd.prog 19 #[.agg #[.int .i64 ev, .int .i64 st, .slice A l.length c], .slice A1 xs.length c1] w (ReadEnd l st xs w) := by
  have HC := fun W (hW : Below w.heap.size w W) => check_calls ev st A c l W (Kd.C_below hr hW)
  rw [show checkVal ev st l = 0 from by simp [checkVal, h]] at HC
  have HC := Aside0.mk HC
  have HF := fun W (hW : Below w.heap.size w W) (hn : W.cell? ⟨w.heap.size, 0, none⟩ = some (.int .i64 ev)) => containsFunc_calls A1 c1 xs 27 #[.pointer (some ⟨w.heap.size, 0, none⟩)] (fun _ => True) _ W (Kd.C_below hr1 hW) (fun _ _ => trivial) (read1_pred _ _ _ hn) (fun _ _ => rfl)
  rw [he] at HF
  have HF := Aside0.mk HF
  have hmf := run_mkfun
  obtain ⟨g0, g1, g2, g3, g4, g5⟩ := headOk_true (specOk_head h)
  have HS := Aside0.mk h
  have HE := Aside0.mk he
  have HR := Aside0.mk hr
  have HR1 := Aside0.mk hr1
  clear hr h he hr1
  have hx' : ¬ (4096 : Int) < (xs.length : Int) := by omega
  go_enter Tryd.func19, Tryd.ntmps19
  go_wp2_with fail
  refine (HC.out _ (by repeat (first | exact Below.refl _ _ | apply below_alloc | apply pw_below_drewN | apply below_drew1))).mono ?_
  rintro e w' ⟨rfl, hb'⟩
  have HB' := Aside0.mk (below_then (below_alloc (Below.refl _ _) _) (by simp) hb')
  have HX := Aside0.mk (blk_below (blk_new _ _) hb')
  clear hb' HC
  go_wp2_with fail
  refine (HF.out _ HB'.out ((blk_cell HX.out 0).trans rfl)).mono ?_
  rintro e w'' ⟨rfl, hb'⟩
  have HB'' := Aside0.mk (below_then HB'.out (HB'.out).size hb')
  have HX' := Aside0.mk (blk_below HX.out hb')
  clear hb' HF HX HB'
  have hz1 : w''.cell? ⟨w.heap.size, 1, none⟩ = some (.int .i64 st) := (blk_cell HX'.out 1).trans rfl
  go_wp2
  go_loopg [8, 26] xs.length (fun gg v8 v26 wr => ∃ (kk : Nat) (q : Int), kk ≤ xs.length ∧ xs.length - kk ≤ gg ∧ v26 = .int .i64 kk ∧ v8 = .int .i64 q ∧ 0 ≤ q ∧ q < (l.length : Int) ∧ Aside0 (Below w.heap.size w wr) ∧ Aside0 (wr.heap[w.heap.size]? = some (.cells #[.int .i64 ev, .int .i64 st, .slice A l.length c] 24 (0, 0))) ∧ Aside0 (readFrom l st 0 xs = readFrom l q kk (xs.drop kk)))
  case atStart => exact ⟨0, st, Nat.zero_le _, by omega, rfl, rfl, by omega, by omega, HB'', HX', ⟨rfl⟩⟩
  case round =>
    clear HX' HB''
    obtain ⟨kk, q, hkk, hg, rfl, rfl, hq0, hq1, BW, HX, HA⟩ := hrel
    by_cases hlt : kk < xs.length
    · have hltz : (kk : Int) < (xs.length : Int) := by omega
      obtain ⟨ad, e0, hx0⟩ := Kd.at_int (Kd.C_below HR1.out BW.out) (kk : Int) (by omega) hltz
      cases e0
      rw [Int.toNat_natCast] at hx0
      have hxr : 0 ≤ rd xs kk ∧ rd xs kk < ev := by
        have h2 := List.any_eq_false.1 HE.out (rd xs kk) (rd_mem hlt)
        simp only [evBad, Bool.or_eq_true, decide_eq_true_eq] at h2
        omega
      obtain ⟨ad2, A0, c0, e0, hx2, hl0, hr0⟩ := Q.at_L1 (Kd.C_below HR.out BW.out) q hq0 hq1
      cases e0
      have hlen := (specOk_row HS.out hq0 hq1).1
      have hsr := stepAt_range HS.out hq0 hq1 hxr.1 hxr.2
      have HST := Aside0.mk (readFrom_step l q kk xs hlt)
      rw [← HA.out] at HST
      clear HA
      generalize hx1 : rd xs (kk : Int) = x at hx0 hxr HST hsr
      obtain ⟨hxr0, hxr1⟩ := hxr
      obtain ⟨ad3, e0, hx3⟩ := Kd.at_int hr0 x hxr0 (by omega)
      cases e0
      unfold stepAt at HST hsr
      clear hx1 hr0
      generalize hy : Q.rd_L1 l q = y at hx2 hx3 hlen hl0 HST hsr
      generalize rd y x = q1 at hx3 HST hsr
      have hxy : x < (y.length : Int) := by omega
      have hz0 : wr.cell? ⟨w.heap.size, 2, none⟩ = some (.slice (some ad2) l.length c) := (blk_cell HX.out 2).trans rfl
      clear hy hlen
      by_cases hneg : q1 < 0
      · rw [if_pos hneg] at HST
        have hn2 : decide (q1 < 0) = true := by simpa using hneg
        go_wp2
        go_ret3
        refine ⟨?_, BW.out⟩
        rw [HST.out]; rfl
      · rw [if_neg hneg] at HST
        have hn2 : decide (q1 < 0) = false := by simpa using hneg
        go_wp2
        go_roundg (xs.length - (kk + 1))
        case measure => omega
        case rel => exact ⟨kk + 1, q1, by omega, by omega, by go_num, rfl, by omega, by omega, BW, HX, HST⟩
    · have hltz : ¬ (kk : Int) < (xs.length : Int) := by omega
      have HST := Aside0.mk (HA.out.trans (readFrom_end l q kk xs hlt))
      have hke : kk = xs.length := by omega
      have HK := Aside0.mk hke
      clear hke HA
      go_wp2
      go_ret3
      refine ⟨?_, BW.out⟩
      rw [HST.out, HK.out]; rfl
end Go.Proofs.YtmphigeefppfpaaDoor.H
namespace Go.Proofs.YtmphigeefppfpaaDoor.H
open Go.RowKit Go.Proofs.YtmphigeefppfpaaDoorW.PrintWords Go.Proofs.YtmphigeefppfpaaDoorW.PrintLast Go.Proofs.YtmphigeefppfpaaDoorW.PrintMore
def tri (r : Int × Int × Int) : Value := .tuple #[.int .i64 r.1, .int .i64 r.2.1, .int .i64 r.2.2]
theorem read_calls (ev st : Int) (A : Option Addr) (c : Nat) (l : List (List Int)) (A1 : Option Addr) (c1 : Nat) (xs : List Int) (w : World) (hr : Kd.C (Kd.slice 3 (Kd.int .i64)) w A l.length l) (hr1 : Kd.C (Kd.int .i64) w A1 xs.length xs) :
    Calls Tryd.prog 19 #[.agg #[.int .i64 ev, .int .i64 st, .slice A l.length c], .slice A1 xs.length c1] w fun e w' => e = .returned (tri (readVal ev st l xs)) ∧ Below w.heap.size w w' := by
  unfold readVal
  cases h : specOk ev st l with
  | false => exact read_bad ev st A c l A1 c1 xs w hr h
  | true =>
    by_cases hx : xs.length > 4096
    · rw [if_neg (by simp), if_pos hx]
      exact read_long ev st A c l A1 c1 xs w hr h hx
    · cases he : xs.any (evBad ev) with
      | true =>
        rw [if_neg (by simp), if_neg hx, if_pos rfl]
        exact read_arg ev st A c l A1 c1 xs w hr hr1 h hx he
      | false =>
        rw [if_neg (by simp), if_neg hx, if_neg (by simp)]
        exact read_go ev st A c l A1 c1 xs w hr hr1 h hx he
theorem blk_new' {W : World} {k : Nat} (o : Obj) (h : W.heap.size = k) : (W.alloc o).heap[k]? = some o := h ▸ blk_new W o
theorem ints_of_block {W : World} {b : Nat} {t : TypeId} {zs : List Int} (hm : zs.length ≤ 9223372036854775807) (h : W.heap[b]? = some (.cells (zs.map (Value.int .i64)).toArray t (0, 0))) : Kd.C (Kd.int .i64) W (some ⟨b, 0, none⟩) zs.length zs := by
  refine ⟨rfl, hm, fun _ => ⟨_, rfl, fun j p hj => ⟨[.int .i64 p], rfl, rfl, fun i u hu => ?_⟩⟩⟩
  cases i with
  | zero =>
    have hu' : Value.int .i64 p = u := by simpa using hu
    subst hu'
    rw [add_plain, blk_cell h]
    simp [Kd.int, Kd.scalar, hj]
  | succ i => simp at hu
theorem rows2_of_blocks {W : World} {b b0 b1 : Nat} {t : TypeId} {x y : List Int} {cx cy : Nat} (hx : Kd.C (Kd.int .i64) W (some ⟨b0, 0, none⟩) x.length x) (hy : Kd.C (Kd.int .i64) W (some ⟨b1, 0, none⟩) y.length y) (hcx : x.length ≤ cx) (hcy : y.length ≤ cy)
    (h : W.heap[b]? = some (.cells #[.slice (some ⟨b0, 0, none⟩) x.length cx, .slice (some ⟨b1, 0, none⟩) y.length cy] t (0, 0))) : Kd.C (Kd.slice 3 (Kd.int .i64)) W (some ⟨b, 0, none⟩) 2 [x, y] := by
  refine ⟨rfl, by omega, fun _ => ⟨_, rfl, fun j p hj => ?_⟩⟩
  match j, hj with
  | 0, hj =>
    obtain rfl : x = p := by simpa using hj
    refine ⟨[.slice (some ⟨b0, 0, none⟩) x.length cx], rfl, ⟨_, _, rfl, hcx, hx⟩, fun i u hu => ?_⟩
    cases i with
    | zero =>
      obtain rfl : _ = u := by simpa using hu
      rw [add_plain, blk_cell h]; simp [Kd.slice]
    | succ i => simp at hu
  | 1, hj =>
    obtain rfl : y = p := by simpa using hj
    refine ⟨[.slice (some ⟨b1, 0, none⟩) y.length cy], rfl, ⟨_, _, rfl, hcy, hy⟩, fun i u hu => ?_⟩
    cases i with
    | zero =>
      obtain rfl : _ = u := by simpa using hu
      rw [add_plain, blk_cell h]; simp [Kd.slice]
    | succ i => simp at hu
  | j + 2, hj => simp at hj
def exL : List (List Int) := [[1, -1], [-1, 0]]
theorem ex1 : readVal 2 0 exL [0, 1, 0] = (1, 3, 0) := by decide +kernel
theorem ex2 : readVal 2 0 exL [0, 0] = (-1, 1, 0) := by decide +kernel
set_option maxHeartbeats 1000000 in
theorem alive_calls (w : World) : Calls Tryd.prog 6 #[] w fun e w' => e = .returned (.bool true) ∧ Below w.heap.size w w' := by
  go_enter Tryd.func6, Tryd.ntmps6
  go_wp2_with fail
  have hB0 := Aside0.mk ((by repeat (first | exact Below.refl _ _ | apply below_alloc)) : Below w.heap.size w (((((w.alloc (Obj.cells #[Value.int IntKind.i64 1, Value.int IntKind.i64 (-1)] 3)).alloc (Obj.cells #[Value.int IntKind.i64 (-1), Value.int IntKind.i64 0] 3)).alloc (Obj.cells #[Value.slice (some { block := w.heap.size, off := 0 }) 2 2, Value.slice (some { block := w.heap.size + 1, off := 0 }) 2 2] 25)).alloc (Obj.cells #[Value.int IntKind.i64 2, Value.int IntKind.i64 0, Value.slice (some { block := w.heap.size + 1 + 1, off := 0 }) 2 2] 24)).alloc (Obj.cells #[Value.int IntKind.i64 0, Value.int IntKind.i64 1, Value.int IntKind.i64 0] 3)))
  have h0 := Aside0.mk (blk_alloc (blk_alloc (blk_alloc (blk_alloc (blk_new w (Obj.cells #[Value.int IntKind.i64 1, Value.int IntKind.i64 (-1)] 3)) (Obj.cells #[Value.int IntKind.i64 (-1), Value.int IntKind.i64 0] 3)) (Obj.cells #[Value.slice (some { block := w.heap.size, off := 0 }) 2 2, Value.slice (some { block := w.heap.size + 1, off := 0 }) 2 2] 25)) (Obj.cells #[Value.int IntKind.i64 2, Value.int IntKind.i64 0, Value.slice (some { block := w.heap.size + 1 + 1, off := 0 }) 2 2] 24)) (Obj.cells #[Value.int IntKind.i64 0, Value.int IntKind.i64 1, Value.int IntKind.i64 0] 3))
  have h1 := Aside0.mk (blk_alloc (blk_alloc (blk_alloc (blk_new' (W := w.alloc (Obj.cells #[Value.int IntKind.i64 1, Value.int IntKind.i64 (-1)] 3)) (k := w.heap.size + 1) (Obj.cells #[Value.int IntKind.i64 (-1), Value.int IntKind.i64 0] 3) (by simp)) (Obj.cells #[Value.slice (some { block := w.heap.size, off := 0 }) 2 2, Value.slice (some { block := w.heap.size + 1, off := 0 }) 2 2] 25)) (Obj.cells #[Value.int IntKind.i64 2, Value.int IntKind.i64 0, Value.slice (some { block := w.heap.size + 1 + 1, off := 0 }) 2 2] 24)) (Obj.cells #[Value.int IntKind.i64 0, Value.int IntKind.i64 1, Value.int IntKind.i64 0] 3))
  have h2 := Aside0.mk (blk_alloc (blk_alloc (blk_new' (W := (w.alloc (Obj.cells #[Value.int IntKind.i64 1, Value.int IntKind.i64 (-1)] 3)).alloc (Obj.cells #[Value.int IntKind.i64 (-1), Value.int IntKind.i64 0] 3)) (k := w.heap.size + 1 + 1) (Obj.cells #[Value.slice (some { block := w.heap.size, off := 0 }) 2 2, Value.slice (some { block := w.heap.size + 1, off := 0 }) 2 2] 25) (by simp)) (Obj.cells #[Value.int IntKind.i64 2, Value.int IntKind.i64 0, Value.slice (some { block := w.heap.size + 1 + 1, off := 0 }) 2 2] 24)) (Obj.cells #[Value.int IntKind.i64 0, Value.int IntKind.i64 1, Value.int IntKind.i64 0] 3))
  have h3 := Aside0.mk (blk_alloc (blk_new' (W := ((w.alloc (Obj.cells #[Value.int IntKind.i64 1, Value.int IntKind.i64 (-1)] 3)).alloc (Obj.cells #[Value.int IntKind.i64 (-1), Value.int IntKind.i64 0] 3)).alloc (Obj.cells #[Value.slice (some { block := w.heap.size, off := 0 }) 2 2, Value.slice (some { block := w.heap.size + 1, off := 0 }) 2 2] 25)) (k := w.heap.size + 1 + 1 + 1) (Obj.cells #[Value.int IntKind.i64 2, Value.int IntKind.i64 0, Value.slice (some { block := w.heap.size + 1 + 1, off := 0 }) 2 2] 24) (by simp)) (Obj.cells #[Value.int IntKind.i64 0, Value.int IntKind.i64 1, Value.int IntKind.i64 0] 3))
  have h4 := Aside0.mk (blk_new' (W := (((w.alloc (Obj.cells #[Value.int IntKind.i64 1, Value.int IntKind.i64 (-1)] 3)).alloc (Obj.cells #[Value.int IntKind.i64 (-1), Value.int IntKind.i64 0] 3)).alloc (Obj.cells #[Value.slice (some { block := w.heap.size, off := 0 }) 2 2, Value.slice (some { block := w.heap.size + 1, off := 0 }) 2 2] 25)).alloc (Obj.cells #[Value.int IntKind.i64 2, Value.int IntKind.i64 0, Value.slice (some { block := w.heap.size + 1 + 1, off := 0 }) 2 2] 24)) (k := w.heap.size + 1 + 1 + 1 + 1) (Obj.cells #[Value.int IntKind.i64 0, Value.int IntKind.i64 1, Value.int IntKind.i64 0] 3) (by simp))
  generalize (((((w.alloc (Obj.cells #[Value.int IntKind.i64 1, Value.int IntKind.i64 (-1)] 3)).alloc (Obj.cells #[Value.int IntKind.i64 (-1), Value.int IntKind.i64 0] 3)).alloc (Obj.cells #[Value.slice (some { block := w.heap.size, off := 0 }) 2 2, Value.slice (some { block := w.heap.size + 1, off := 0 }) 2 2] 25)).alloc (Obj.cells #[Value.int IntKind.i64 2, Value.int IntKind.i64 0, Value.slice (some { block := w.heap.size + 1 + 1, off := 0 }) 2 2] 24)).alloc (Obj.cells #[Value.int IntKind.i64 0, Value.int IntKind.i64 1, Value.int IntKind.i64 0] 3)) = W at *
  have HC0 := Aside0.mk (rows2_of_blocks (x := [1, -1]) (y := [-1, 0]) (cx := 2) (cy := 2) (ints_of_block (by decide) h0.out) (ints_of_block (by decide) h1.out) (by decide) (by decide) h2.out)
  have HC1 := Aside0.mk (ints_of_block (zs := [0, 1, 0]) (by decide) h4.out)
  refine (read_calls 2 0 (some ⟨w.heap.size + 1 + 1, 0, none⟩) 2 exL (some ⟨w.heap.size + 1 + 1 + 1 + 1, 0, none⟩) 3 [0, 1, 0] W HC0.out HC1.out).mono ?_
  rw [ex1]
  rintro e w1 ⟨rfl, hb⟩
  have HB1 := Aside0.mk (below_then hB0.out (hB0.out).size hb)
  have hC0 := Aside0.mk (Kd.C_below HC0.out hb)
  have h3' := Aside0.mk (blk_below h3.out hb)
  clear h0 h1 h2 h3 h4 HC0 HC1 hB0 hb
  unfold tri
  have hz0 : w1.cell? ⟨w.heap.size + 1 + 1 + 1, 0, none⟩ = some (.int .i64 2) := (blk_cell h3'.out 0).trans rfl
  have hz1 : w1.cell? ⟨w.heap.size + 1 + 1 + 1, 1, none⟩ = some (.int .i64 0) := (blk_cell h3'.out 1).trans rfl
  have hz2 : w1.cell? ⟨w.heap.size + 1 + 1 + 1, 2, none⟩ = some (.slice (some ⟨w.heap.size + 1 + 1, 0, none⟩) 2 2) := (blk_cell h3'.out 2).trans rfl
  go_wp2_with fail
  have HC1 := Aside0.mk (ints_of_block (zs := [0, 0]) (by decide) (blk_new w1 (Obj.cells #[Value.int IntKind.i64 0, Value.int IntKind.i64 0] 3)))
  refine (read_calls 2 0 (some ⟨w.heap.size + 1 + 1, 0, none⟩) 2 exL (some ⟨w1.heap.size, 0, none⟩) 2 [0, 0] _ (Kd.C_below hC0.out (below_alloc (Below.refl _ _) _)) HC1.out).mono ?_
  rw [ex2]
  rintro e w2 ⟨rfl, hb⟩
  have HB2 := Aside0.mk (below_then (below_alloc HB1.out _) (below_alloc HB1.out _).size hb)
  clear hb HC1 hC0 h3' HB1
  unfold tri
  go_wp2
  go_ret
  exact ⟨rfl, HB2.out⟩
end Go.Proofs.YtmphigeefppfpaaDoor.H
namespace Go.Proofs.YtmphigeefppfpaaDoor.H
open Go.RowKit Go.Proofs.YtmphigeefppfpaaDoorW.PrintWords Go.Proofs.YtmphigeefppfpaaDoorW.PrintLast Go.Proofs.YtmphigeefppfpaaDoorW.PrintMore
open Q
theorem wrap_succ {i : Int} (h0 : 0 ≤ i) (h1 : i < 9223372036854775807) : wrap64 (i + 1) = i + 1 := by
  unfold wrap64; omega
theorem all_drop {α : Type} {p : α → Bool} {xs : List α} {j : Nat} (h : j < xs.length) : (xs.drop j).all p = (p xs[j] && (xs.drop (j + 1)).all p) := by
  rw [List.drop_eq_getElem_cons h, List.all_cons]
theorem rd_at {xs : List Int} {j : Nat} (h : j < xs.length) : rd xs (j : Int) = xs[j] := by
  simp [rd, List.getD_eq_getElem?_getD, List.getElem?_eq_getElem h]
theorem rdL_at {xs : List (List Int)} {j : Nat} (h : j < xs.length) : rd_L1 xs (j : Int) = xs[j] := by
  simp [rd_L1, List.getD_eq_getElem?_getD, List.getElem?_eq_getElem h]
theorem ev_next {α : Type} {g f : Nat → Option α} {r : α} (k : Ev f r) (h : ∀ k, g (k + 1) = f k) : Ev g r := Ev.step h k
theorem ev_end {α : Type} {g : Nat → Option α} {r : α} (h : ∀ k, g (k + 1) = some r) : Ev g r := Ev.step (f := fun _ => some r) h (Ev.now r)
end Go.Proofs.YtmphigeefppfpaaDoor.H
namespace Go.Proofs.YtmphigeefppfpaaDoorW.PrintWords
open Go.RowKit Go.Maps Go.ChangeMaps
structure KeyB {κ : Type} (P : Program) (k : TypeId) (enc : κ → Value) (dom : κ → Prop) : Prop where
  K : Keyed P k
  lit : ∀ x, dom x → ∃ l, keyOf P k (enc x) = some l
  inj : ∀ x y, enc x = enc y → x = y
def entsOf {κ ν : Type} (enc : κ → Value) (encV : ν → Value) (es : List (κ × ν)) : List (Value × Value) := es.map fun p => (enc p.1, encV p.2)
def MapIs {κ ν : Type} (w : World) (B : Nat) (enc : κ → Value) (encV : ν → Value) (dom : κ → Prop) (es : List (κ × ν)) : Prop :=
  (∃ ms ck, w.heap[B]? = some (.map ms ck) ∧ ms.toList.map (fun e => (e.key, e.val)) = entsOf enc encV es) ∧ (es.map (·.1)).Nodup ∧ ∀ p ∈ es, dom p.1
section
variable {κ ν : Type} {P : Program} {w w1 : World} {B : Nat} {enc : κ → Value} {encV : ν → Value} {dom : κ → Prop} {es : List (κ × ν)} {k t e : TypeId}
theorem mapIs_new (w : World) (enc : κ → Value) (encV : ν → Value) (dom : κ → Prop) : MapIs (w.alloc (.map #[] 0)) w.heap.size enc encV dom [] :=
  ⟨⟨#[], 0, heap_alloc_new w _, rfl⟩, List.nodup_nil, by simp⟩
theorem MapIs.kept (h : MapIs w B enc encV dom es) (hb : w1.heap[B]? = w.heap[B]?) : MapIs w1 B enc encV dom es := by
  obtain ⟨⟨ms, ck, h1, h2⟩, h3⟩ := h
  exact ⟨⟨ms, ck, hb.trans h1, h2⟩, h3⟩
theorem MapIs.lt (h : MapIs w B enc encV dom es) : B < w.heap.size := by
  obtain ⟨⟨ms, ck, h1, _⟩, _⟩ := h
  exact (Array.getElem?_eq_some_iff.1 h1).1
theorem MapIs.below (h : MapIs w B enc encV dom es) (hb : Below w.heap.size w w1) : MapIs w1 B enc encV dom es := h.kept (hb.block B h.lt)
theorem MapIs.grown (h : MapIs w B enc encV dom es) {row : Option Nat} (hg : w.grownBy w1 row) (hne : some B ≠ row) : MapIs w1 B enc encV dom es := h.kept (hg.block B h.lt hne)
theorem MapIs.far (h : MapIs w B enc encV dom es) {p : Addr} (hp : B ≠ p.block) (u : Value) : MapIs (w.setCell p u) B enc encV dom es := h.kept (Below.heap_setCell w p u B hp)
theorem MapIs.ne_row (h : MapIs w B enc encV dom es) {g : Nat} {cs : Array Value} {q : TypeId} {fr : Nat × Nat} (hg : w.heap[g]? = some (.cells cs q fr)) : g ≠ B := by
  rintro rfl
  obtain ⟨⟨ms, ck, h1, _⟩, _⟩ := h
  rw [hg] at h1
  cases h1
theorem MapIs.len (h : MapIs w B enc encV dom es) (ht : P.underlying t = some (.map k e)) (ty : TypeId) : (Builtin.len_ #[t] ty #[.map (some B)]).run P w = .ok (.int .i64 es.length) w := by
  obtain ⟨⟨ms, ck, hb, hms⟩, _⟩ := h
  have hlen : ms.size = es.length := by have := congrArg List.length hms; simpa [entsOf] using this
  simp [Builtin.len_, run_underlying ht, MapKept.run_getObj_map hb, hlen, goInt]
end
section
variable {κ ν : Type} [DecidableEq κ] {P : Program} {w w1 : World} {B : Nat} {enc : κ → Value} {encV : ν → Value} {dom : κ → Prop} {es : List (κ × ν)} {k t e : TypeId}
def mget (x : κ) (es : List (κ × ν)) : Option ν := (es.find? fun p => p.1 = x).map (·.2)
def mput (x : κ) (v : ν) : List (κ × ν) → List (κ × ν)
  | [] => [(x, v)]
  | (y, u) :: r => if y = x then (x, v) :: r else (y, u) :: mput x v r
theorem mput_new {x : κ} {v : ν} {es : List (κ × ν)} (h : x ∉ es.map (·.1)) : mput x v es = es ++ [(x, v)] := by
  induction es with
  | nil => rfl
  | cons p r ih =>
    obtain ⟨y, u⟩ := p
    simp only [List.map_cons, List.mem_cons, not_or] at h
    simp only [mput, if_neg (Ne.symm h.1), ih h.2, List.cons_append]
theorem mput_keys {x : κ} {v : ν} (es : List (κ × ν)) : (mput x v es).map (·.1) = if x ∈ es.map (·.1) then es.map (·.1) else es.map (·.1) ++ [x] := by
  induction es with
  | nil => simp [mput]
  | cons p r ih =>
    obtain ⟨y, u⟩ := p
    by_cases h : y = x
    · subst h; simp [mput]
    · simp only [mput, if_neg h, List.map_cons, ih, List.mem_cons, Ne.symm h, false_or]
      split <;> simp
theorem mget_mput {x y : κ} {v : ν} (es : List (κ × ν)) : mget y (mput x v es) = if y = x then some v else mget y es := by
  induction es with
  | nil =>
    by_cases h : y = x
    · subst h; simp [mput, mget]
    · simp [mput, mget, h, Ne.symm h]
  | cons p r ih =>
    obtain ⟨z, u⟩ := p
    by_cases h : z = x
    · subst h
      by_cases h2 : y = z
      · subst h2; simp [mput, mget]
      · simp [mput, mget, h2, Ne.symm h2]
    · by_cases h2 : z = y
      · subst h2
        simp [mput, mget, h]
      · have ih' : mget y (mput x v r) = if y = x then some v else mget y r := ih
        simp only [mget] at ih'
        simp only [mput, if_neg h, mget, List.find?_cons, decide_eq_false h2]
        exact ih'
theorem mget_none {x : κ} {es : List (κ × ν)} : mget x es = none ↔ x ∉ es.map (·.1) := by
  simp only [mget, Option.map_eq_none_iff, List.find?_eq_none, List.mem_map, not_exists, not_and, decide_eq_true_eq]
theorem find_keys (H : KeyB P k enc dom) {ms : List MapEntry} (hms : ms.map (fun e => (e.key, e.val)) = entsOf enc encV es) (hd : ∀ p ∈ es, dom p.1) {x : κ} (hx : dom x) (w : World) (hnd : (es.map (·.1)).Nodup) :
    (mget x es = none ∧ (Instr.findKey k (enc x) ms).run P w = .ok none w) ∨ ∃ v j, mget x es = some v ∧ es[j]? = some (x, v) ∧ (Instr.findKey k (enc x) ms).run P w = .ok (some (j, encV v)) w := by
  have hlen : ms.length = es.length := by have := congrArg List.length hms; simpa [entsOf] using this
  have hat : ∀ (j : Nat) (e : MapEntry), ms[j]? = some e → ∃ p : κ × ν, es[j]? = some p ∧ e.key = enc p.1 ∧ e.val = encV p.2 := by
    intro j e he
    have h1 : (ms.map (fun e => (e.key, e.val)))[j]? = some (e.key, e.val) := by rw [List.getElem?_map, he]; rfl
    rw [hms] at h1
    simp only [entsOf, List.getElem?_map, Option.map_eq_some_iff, Prod.mk.injEq] at h1
    obtain ⟨p, hp, h2, h3⟩ := h1
    exact ⟨p, hp, h2.symm, h3.symm⟩
  obtain ⟨l, hl⟩ := H.lit x hx
  rcases H.K.find w hl ms (fun e he => by
    obtain ⟨j, hj, rfl⟩ := List.getElem_of_mem he
    obtain ⟨p, hp, h2, _⟩ := hat j _ (List.getElem?_eq_getElem hj)
    rw [h2]
    exact H.lit _ (hd p (List.mem_of_getElem? hp))) with ⟨h1, h2⟩ | ⟨j, e0, h1, h2, h3⟩
  · refine .inl ⟨mget_none.2 fun hm => ?_, h1⟩
    obtain ⟨p, hp, rfl⟩ := List.mem_map.1 hm
    obtain ⟨j, hj, hpj⟩ := List.getElem_of_mem hp
    have hj' : j < ms.length := by omega
    obtain ⟨q, hq, h4, _⟩ := hat j _ (List.getElem?_eq_getElem hj')
    rw [List.getElem?_eq_getElem hj, Option.some.injEq, hpj] at hq
    subst hq
    exact h2 _ (List.getElem_mem hj') h4
  · obtain ⟨p, hp, h4, h5⟩ := hat j e0 h2
    have hpx : p.1 = x := H.inj _ _ (h4.symm.trans h3)
    obtain ⟨y, v⟩ := p
    simp only at hpx
    subst hpx
    refine .inr ⟨v, j, ?_, hp, by rw [h1, h5]⟩
    have hfind : ∀ (es : List (κ × ν)) (j : Nat), (es.map (·.1)).Nodup → es[j]? = some (y, v) → mget y es = some v := by
      intro es
      induction es with
      | nil => intro j _ h; simp at h
      | cons q r ih =>
        intro j hn hj
        cases j with
        | zero =>
          obtain rfl : q = (y, v) := by simpa using hj
          simp [mget]
        | succ j =>
          have hj' : r[j]? = some (y, v) := by simpa using hj
          simp only [List.map_cons, List.nodup_cons] at hn
          have hne : q.1 ≠ y := fun e => hn.1 (e ▸ List.mem_map.2 ⟨(y, v), List.mem_of_getElem? hj', rfl⟩)
          have h6 := ih j hn.2 hj'
          simp only [mget] at h6 ⊢
          rw [List.find?_cons, decide_eq_false hne]
          exact h6
    exact hfind es j hnd hp
theorem MapIs.look (h : MapIs w B enc encV dom es) (H : KeyB P k enc dom) (ht : P.underlying t = some (.map k e)) {z : Value} (hz : (zeroValue e).run P w = .ok z w) {x : κ} (hx : dom x) (c : Bool) :
    (Instr.lookup t (.map (some B)) (enc x) c).run P w = .ok (match mget x es with | some v => if c then .tuple #[encV v, .bool true] else encV v | none => if c then .tuple #[z, .bool false] else z) w := by
  obtain ⟨⟨ms, ck, hb, hms⟩, hnd, hd⟩ := h
  obtain ⟨l, hl⟩ := H.lit x hx
  rcases find_keys H hms hd hx w hnd with ⟨h1, h2⟩ | ⟨v, j, h1, _, h2⟩
  · rw [h1]
    simp [Instr.lookup, run_underlying ht, MapKept.run_getObj_map hb, H.K.check w _ hl, h2, hz, Result.andThen]
  · rw [h1]
    simp [Instr.lookup, run_underlying ht, MapKept.run_getObj_map hb, H.K.check w _ hl, h2, Result.andThen]
theorem ents_mput (H : KeyB P k enc dom) (x : κ) (v : ν) : ∀ (es : List (κ × ν)) (j : Nat) (u : ν), es[j]? = some (x, u) → (es.map (·.1)).Nodup → entsOf enc encV (mput x v es) = (entsOf enc encV es).set j (enc x, encV v)
  | [], j, u, h, _ => by simp at h
  | (y, z) :: r, 0, u, h, hn => by
    have h' : y = x ∧ z = u := by simpa using h
    obtain ⟨rfl, rfl⟩ := h'
    simp [mput, entsOf]
  | (y, z) :: r, j + 1, u, h, hn => by
    have hj' : r[j]? = some (x, u) := by simpa using h
    simp only [List.map_cons, List.nodup_cons] at hn
    have hne : ¬ y = x := fun e => hn.1 (e ▸ List.mem_map.2 ⟨(x, u), List.mem_of_getElem? hj', rfl⟩)
    have ih := ents_mput H x v r j u hj' hn.2
    simp only [mput, if_neg hne, entsOf, List.map_cons, List.set_cons_succ]
    exact congrArg _ ih
theorem MapIs.put (h : MapIs w B enc encV dom es) (H : KeyB P k enc dom) (ht : P.underlying t = some (.map k e)) {x : κ} (hx : dom x) (v : ν) :
    ∃ w', (Instr.mapUpdate t (.map (some B)) (enc x) (encV v)).run P w = .ok () w' ∧ MapIs w' B enc encV dom (mput x v es) ∧ w.grownBy w' (some B) := by
  have hlt := h.lt
  obtain ⟨⟨ms, ck, hb, hms⟩, hnd, hd⟩ := h
  obtain ⟨l, hl⟩ := H.lit x hx
  have hkeys : ((mput x v es).map (·.1)).Nodup := by
    rw [mput_keys]
    split
    · exact hnd
    · rename_i hx'
      refine List.nodup_append.2 ⟨hnd, by simp, fun a ha b hb' => ?_⟩
      obtain rfl : b = x := by simpa using hb'
      exact fun e => hx' (e ▸ ha)
  have hdoms : ∀ p ∈ mput x v es, dom p.1 := by
    intro p hp
    have h1 : p.1 ∈ (mput x v es).map (·.1) := List.mem_map.2 ⟨p, hp, rfl⟩
    rw [mput_keys] at h1
    have h2 : p.1 ∈ es.map (·.1) ∨ p.1 = x := by
      split at h1
      · exact .inl h1
      · rcases List.mem_append.1 h1 with h1 | h1
        · exact .inl h1
        · exact .inr (by simpa using h1)
    rcases h2 with h2 | h2
    · obtain ⟨q, hq, e1⟩ := List.mem_map.1 h2
      rw [← e1]; exact hd q hq
    · rw [h2]; exact hx
  have hturn : ∀ o : Obj, w.grownBy (setBlock w B o) (some B) := fun o => ⟨rfl, rfl, rfl, by simp [setBlock], fun i hi hne => by
    have hne' : B ≠ i := fun e => hne (by rw [e])
    simp [setBlock, hne']⟩
  rcases find_keys H hms hd hx w hnd with ⟨h1, h2⟩ | ⟨u, j, h1, h3, h2⟩
  · refine ⟨setBlock w B (.map (ms.push ⟨enc x, encV v, ck⟩) (ck + 1)), ?_, ⟨⟨ms.push ⟨enc x, encV v, ck⟩, ck + 1, by simp [setBlock, hlt], ?_⟩, hkeys, hdoms⟩, hturn _⟩
    · simp [Instr.mapUpdate, run_underlying ht, MapKept.run_getObj_map hb, H.K.check w false hl, h2, MapKept.run_setObj_map _ hb, Result.andThen, setBlock]
    · rw [mput_new (mget_none.1 h1), Array.toList_push, List.map_append, hms]
      simp [entsOf]
  · have hj : j < ms.size := by
      have h4 : (entsOf enc encV es)[j]? = some (enc x, encV u) := by rw [entsOf, List.getElem?_map, h3]; rfl
      rw [← hms] at h4
      have := (List.getElem?_eq_some_iff.1 h4).1
      simpa using this
    have hkey : (ms[j]'hj).key = enc x := by
      have h4 : (entsOf enc encV es)[j]? = some (enc x, encV u) := by rw [entsOf, List.getElem?_map, h3]; rfl
      rw [← hms, List.getElem?_map, List.getElem?_eq_getElem (by simpa using hj)] at h4
      simpa using congrArg Prod.fst (Option.some.inj h4)
    refine ⟨setBlock w B (.map (ms.modify j fun e => { e with key := enc x, val := encV v }) ck), ?_, ⟨⟨ms.modify j fun e => { e with key := enc x, val := encV v }, ck, by simp [setBlock, hlt], ?_⟩, hkeys, hdoms⟩, hturn _⟩
    · simp [Instr.mapUpdate, run_underlying ht, MapKept.run_getObj_map hb, H.K.check w false hl, h2, MapKept.run_setObj_map _ hb, Result.andThen, setBlock, hj, hkey, H.K.stays w hl]
    · rw [ents_mput H x v es j u h3 hnd, ← hms]
      apply List.ext_getElem?
      intro i
      by_cases hij : i = j
      · subst hij
        simp [hj]
      · simp only [List.getElem?_map, Array.getElem?_toList, List.getElem?_set, Ne.symm hij, if_false]
        rw [Array.getElem?_modify]
        simp [Ne.symm hij]
end
end Go.Proofs.YtmphigeefppfpaaDoorW.PrintWords
namespace Go.Proofs.YtmphigeefppfpaaDoorW.PrintWords
def place {α : Type} [DecidableEq α] (y : α) (q : List α) : Nat := q.idxOf y
theorem zip_keys {β : Type} (q : List β) : q.zipIdx.map (·.1) = q := by simp
section
variable {α : Type} [DecidableEq α]
def ins (q : List α) (y : α) : List α := if y ∈ q then q else q ++ [y]
def rowTo (step : α → Nat → α × Bool) (x : α) (q : List α) : Nat → List Int × List α
  | 0 => ([], q)
  | e + 1 => if (step x e).2 then ((rowTo step x q e).1 ++ [((rowTo step x q e).2.idxOf (step x e).1 : Int)], ins (rowTo step x q e).2 (step x e).1) else ((rowTo step x q e).1 ++ [-1], (rowTo step x q e).2)
def bfsTo (n : Nat) (step : α → Nat → α × Bool) (start : α) : Nat → List (List Int) × List α
  | 0 => ([], [start])
  | i + 1 => match (bfsTo n step start i).2[i]? with
    | some x => ((bfsTo n step start i).1 ++ [(rowTo step x (bfsTo n step start i).2 n).1], (rowTo step x (bfsTo n step start i).2 n).2)
    | none => bfsTo n step start i
variable {step : α → Nat → α × Bool} {x y : α} {q : List α} {n e m i : Nat} {start : α}
theorem ins_pre (q : List α) (y : α) : ∃ r, ins q y = q ++ r := by
  unfold ins
  split
  · exact ⟨[], by simp⟩
  · exact ⟨[y], rfl⟩
theorem rowTo_len : (rowTo step x q e).1.length = e := by
  induction e with
  | zero => rfl
  | succ e ih => simp only [rowTo]; split <;> simp [ih]
theorem rowTo_pre : ∃ r, (rowTo step x q e).2 = q ++ r := by
  induction e with
  | zero => exact ⟨[], by simp [rowTo]⟩
  | succ e ih =>
    obtain ⟨r, hr⟩ := ih
    simp only [rowTo]
    split
    · obtain ⟨r2, h2⟩ := ins_pre (rowTo step x q e).2 (step x e).1
      exact ⟨r ++ r2, by simp only; rw [h2, hr, List.append_assoc]⟩
    · exact ⟨r, hr⟩
theorem rowTo_mono {e' : Nat} (h : e ≤ e') : (rowTo step x q e).2.length ≤ (rowTo step x q e').2.length := by
  induction e' with
  | zero => obtain rfl : e = 0 := by omega
            exact Nat.le_refl _
  | succ e' ih =>
    rcases Nat.lt_or_ge e (e' + 1) with h1 | h1
    · refine Nat.le_trans (ih (by omega)) ?_
      simp only [rowTo]
      split
      · obtain ⟨r2, h2⟩ := ins_pre (rowTo step x q e').2 (step x e').1
        simp only; rw [h2]; simp
      · exact Nat.le_refl _
    · obtain rfl : e = e' + 1 := by omega
      exact Nat.le_refl _
theorem bfsTo_step (h : i < (bfsTo n step start i).2.length) : bfsTo n step start (i + 1) = ((bfsTo n step start i).1 ++ [(rowTo step ((bfsTo n step start i).2[i]) (bfsTo n step start i).2 n).1], (rowTo step ((bfsTo n step start i).2[i]) (bfsTo n step start i).2 n).2) := by
  simp only [bfsTo]
  rw [List.getElem?_eq_getElem h]
theorem bfsTo_stop (h : ¬ i < (bfsTo n step start i).2.length) : bfsTo n step start (i + 1) = bfsTo n step start i := by
  simp only [bfsTo]
  rw [List.getElem?_eq_none (by omega)]
theorem bfsTo_out : (bfsTo n step start i).1.length ≤ i := by
  induction i with
  | zero => simp [bfsTo]
  | succ i ih =>
    by_cases h : i < (bfsTo n step start i).2.length
    · rw [bfsTo_step h]; simp; omega
    · rw [bfsTo_stop h]; omega
theorem bfsTo_mono1 : (bfsTo n step start i).2.length ≤ (bfsTo n step start (i + 1)).2.length := by
  by_cases h : i < (bfsTo n step start i).2.length
  · rw [bfsTo_step h]
    exact rowTo_mono (e := 0) (Nat.zero_le n)
  · rw [bfsTo_stop h]; exact Nat.le_refl _
theorem bfsTo_mono (h : i ≤ m) : (bfsTo n step start i).2.length ≤ (bfsTo n step start m).2.length := by
  induction m with
  | zero => obtain rfl : i = 0 := by omega
            exact Nat.le_refl _
  | succ m ih =>
    rcases Nat.lt_or_ge i (m + 1) with h1 | h1
    · exact Nat.le_trans (ih (by omega)) bfsTo_mono1
    · obtain rfl : i = m + 1 := by omega
      exact Nat.le_refl _
theorem bfsTo_stays (h : ¬ i < (bfsTo n step start i).2.length) (d : Nat) : bfsTo n step start (i + d) = bfsTo n step start i := by
  induction d with
  | zero => rfl
  | succ d ih =>
    rw [← Nat.add_assoc, bfsTo_stop (by rw [ih]; omega), ih]
theorem mget_zip (q : List α) (y : α) : mget y q.zipIdx = if y ∈ q then some (q.idxOf y) else none := by
  have key : ∀ (q : List α) (k : Nat), mget y (q.zipIdx k) = if y ∈ q then some (q.idxOf y + k) else none := by
    intro q
    induction q with
    | nil => intro k; simp [mget]
    | cons z r ih =>
      intro k
      have h := ih (k + 1)
      simp only [mget] at h
      by_cases hz : z = y
      · subst hz; simp [mget]
      · simp only [List.zipIdx_cons, mget, List.find?_cons, decide_eq_false hz, List.mem_cons, Ne.symm hz, false_or]
        rw [h, List.idxOf_cons]
        simp only [beq_eq_false_iff_ne.2 hz, cond_false]
        split
        · congr 1; omega
        · rfl
  have := key q 0
  simpa using this
theorem mget_place (q : List α) (y : α) : mget y q.zipIdx = if y ∈ q then some (place y q) else none := mget_zip q y
theorem place_new {q : List α} {y : α} (h : y ∉ q) : place y q = q.length := List.idxOf_eq_length h
theorem place_le (q : List α) (y : α) : place y q ≤ q.length := List.idxOf_le_length
theorem mput_zip {q : List α} {y : α} (h : y ∉ q) : mput y q.length q.zipIdx = (q ++ [y]).zipIdx := by
  rw [mput_new (by rw [zip_keys]; exact h), List.zipIdx_append]
  simp
theorem idxOf_new {q : List α} {y : α} (h : y ∉ q) : q.idxOf y = q.length := List.idxOf_eq_length h
theorem set_next {r : List Int} {e n : Nat} (hr : r.length = e) (he : e < n) (v : Int) : (r ++ List.replicate (n - e) 0).set e v = (r ++ [v]) ++ List.replicate (n - (e + 1)) 0 := by
  obtain ⟨d, hd⟩ : ∃ d, n - e = d + 1 := ⟨n - e - 1, by omega⟩
  rw [hd, show n - (e + 1) = d from by omega, List.set_append_right _ _ (by omega), hr, Nat.sub_self, List.replicate_succ, List.set_cons_zero, List.append_assoc]
  rfl
theorem set_last {r : List Int} {e : Nat} {t : List Int} (hr : r.length = e) (u v : Int) : ((r ++ [u]) ++ t).set e v = (r ++ [v]) ++ t := by
  rw [List.append_assoc, List.append_assoc, List.set_append_right _ _ (by omega), hr, Nat.sub_self]
  rfl
theorem ins_all {D : α → Prop} (hq : ∀ y ∈ q, D y) (hy : D y) : ∀ z ∈ ins q y, D z := by
  unfold ins
  split
  · exact hq
  · intro z hz
    rcases List.mem_append.1 hz with hz | hz
    · exact hq z hz
    · rw [List.mem_singleton.1 hz]; exact hy
theorem ins_nodup (hq : q.Nodup) : (ins q y).Nodup := by
  unfold ins
  split
  · exact hq
  · rename_i h
    exact List.nodup_append.2 ⟨hq, by simp, fun a ha b hb => by rw [List.mem_singleton.1 hb]; exact fun e => h (e ▸ ha)⟩
theorem rowTo_all {D : α → Prop} (hstep : ∀ e, e < n → (step x e).2 = true → D (step x e).1) (hq : ∀ y ∈ q, D y) : ∀ e, e ≤ n → ∀ z ∈ (rowTo step x q e).2, D z := by
  intro e
  induction e with
  | zero => intro _; exact hq
  | succ e ih =>
    intro he
    simp only [rowTo]
    split
    · rename_i h
      exact ins_all (ih (by omega)) (hstep e (by omega) h)
    · exact ih (by omega)
theorem rowTo_nodup (hq : q.Nodup) : (rowTo step x q e).2.Nodup := by
  induction e with
  | zero => exact hq
  | succ e ih =>
    simp only [rowTo]
    split
    · exact ins_nodup ih
    · exact ih
theorem bfsTo_all {D : α → Prop} (hstep : ∀ x e, D x → e < n → (step x e).2 = true → D (step x e).1) (h0 : D start) : ∀ i, ∀ z ∈ (bfsTo n step start i).2, D z := by
  intro i
  induction i with
  | zero => intro z hz; rw [List.mem_singleton.1 hz]; exact h0
  | succ i ih =>
    by_cases h : i < (bfsTo n step start i).2.length
    · rw [bfsTo_step h]
      exact rowTo_all (n := n) (fun e he hs => hstep _ e (ih _ (List.getElem_mem h)) he hs) ih n (Nat.le_refl _)
    · rw [bfsTo_stop h]; exact ih
theorem bfsTo_nodup : ∀ i, (bfsTo n step start i).2.Nodup := by
  intro i
  induction i with
  | zero => simp [bfsTo]
  | succ i ih =>
    by_cases h : i < (bfsTo n step start i).2.length
    · rw [bfsTo_step h]; exact rowTo_nodup ih
    · rw [bfsTo_stop h]; exact ih
end
end Go.Proofs.YtmphigeefppfpaaDoorW.PrintWords
namespace Go.Proofs.YtmphigeefppfpaaDoor.H
open Go.RowKit Go.Proofs.YtmphigeefppfpaaDoorW.PrintWords Go.Proofs.YtmphigeefppfpaaDoorW.PrintLast Go.Proofs.YtmphigeefppfpaaDoorW.PrintMore
set_option linter.unusedVariables false
theorem info3 : (Tryd.prog.info? 3).map (fun i => (i.zero, i.size, i.bytes)) = some (some (.int .i64 0), 1, 8) := by kernel_rfl
theorem info25 : (Tryd.prog.info? 25).map (fun i => (i.zero, i.size, i.bytes)) = some (some (.slice none 0 0), 1, 24) := by kernel_rfl
def wf64 (x : Int) : Prop := (Lit.int .i64 x).wf = true
theorem keyInt : KeyB Tryd.prog 3 (Value.int .i64) wf64 where
  K := Go.Maps.int_keyed Tryd.underlying3
  lit := fun _ h => ⟨_, Go.Maps.keyOf_int_mk Tryd.underlying3 h⟩
  inj := fun x y h => by cases h; rfl
def encN (n : Nat) : Value := .int .i64 n
theorem zero3 (w : World) : (zeroValue 3).run Tryd.prog w = .ok (.int .i64 0) w := by kernel_rfl
def Disj (A B : Nat → Prop) : Prop := ∀ k, A k → ¬ B k
theorem R_formB {α : Type} {d : Kd α} {e base : Nat} {ok : Nat → Prop} {w : World} {v : Value} {xs : List α} (h : d.R e w base ok v xs) {b : Nat} (hb : v.ownBlock = some b) : ∃ cap, v = .slice (some ⟨b, 0, none⟩) xs.length cap := by
  obtain ⟨_, inner, ho, _⟩ := h
  rcases ho.2 with ⟨rfl, _⟩ | ⟨g, cap, cur, rfl, _⟩
  · simp [Value.ownBlock] at hb
  · have : g = b := by simpa [Value.ownBlock] using hb
    subst this
    exact ⟨cap, rfl⟩
theorem R_new1 (W : World) (x : Int) (base : Nat) (hb : base ≤ W.heap.size) : Kd.R (Kd.int .i64) 3 (W.alloc (.cells #[.int .i64 x] 3)) base (fun k => k = W.heap.size) (.slice (some ⟨W.heap.size, 0, none⟩) 1 1) [x] := by
  refine ⟨fun k hk => ?_, [.int .i64 x], ⟨by simp [Kd.int, Kd.scalar], .inr ⟨W.heap.size, 1, #[.int .i64 x], rfl, hb, blk_new _ _, by simp, by decide, by simp [Kd.int, Kd.scalar], by simp [Kd.int, Kd.scalar]⟩⟩, ?_⟩
  · have : W.heap.size = k := by simpa [Value.ownBlock] using hk
    omega
  · exact Reps.one (show Kd.M (Kd.int .i64) _ _ _ x [.int .i64 x] from rfl) (Reps.none _ _)
section
variable {α β : Type} {d : Kd α} {d' : Kd β} {e e' base : Nat} {S T : Nat → Prop} {W W1 : World} {v u : Value} {xs : List α} {ys : List β}
theorem R_stay (h : d.R e W base S v xs) {row : Option Nat} (hg : W.grownBy W1 row) (hne : ∀ k, row = some k → ¬ S k) : d.R e W1 base (fun k => S k ∧ k < W.heap.size) v xs :=
  Kd.R_mono (Kd.R_step (Kd.R_bound h) (fun k hk hlt => hg.block k hlt (fun he => hne k he.symm hk.1))) (fun k hk => ⟨hk.1, hk.2.2.1⟩)
theorem Disj.symm {A B : Nat → Prop} (h : Disj A B) : Disj B A := fun k hb ha => h k ha hb
theorem Disj.fresh {A B : Nat → Prop} (h : Disj A B) (N : Nat) : Disj (fun k => A k ∨ N ≤ k) (fun k => B k ∧ k < N) := fun k ha hb => by
  rcases ha with ha | ha
  · exact h k ha hb.1
  · have := hb.2; omega
theorem Disj.less {A B : Nat → Prop} (h : Disj A B) (N : Nat) : Disj (fun k => A k ∧ k < N) (fun k => B k ∧ k < N) := fun k ha hb => h k ha.1 hb.1
theorem MapIs.stay {κ ν : Type} {B : Nat} {enc : κ → Value} {encV : ν → Value} {dom : κ → Prop} {es : List (κ × ν)} (h : MapIs W B enc encV dom es) (hr : d.R e W base S v xs) (hg : W.grownBy W1 v.ownBlock) : MapIs W1 B enc encV dom es :=
  h.grown hg (fun he => by
    obtain ⟨cells, hc⟩ := Kd.R_typed hr B he.symm
    exact h.ne_row hc rfl)
end
def StepW (g : Nat) (lb : Array Value) (D : Int → Prop) (n : Nat) (step : Int → Nat → Int × Bool) (w : World) : Prop :=
  ∀ (W : World) (x : Int) (e : Nat), Below w.heap.size w W → D x → e < n → Calls Tryd.prog g (#[.int .i64 x, .int .i64 e] ++ lb) W fun E w' => E = .returned (.tuple #[.int .i64 (step x e).1, .bool (step x e).2]) ∧ Below W.heap.size W w'
def ExEnd (n : Nat) (step : Int → Nat → Int × Bool) (start : Int) (m : Nat) (w : World) (e : Ending) (w' : World) : Prop :=
  ∃ (ov qv : Value) (So Sq : Nat → Prop), e = .returned (.tuple #[ov, qv]) ∧ (∀ k, So k → ¬ Sq k) ∧ Kd.R (Kd.slice 3 (Kd.int .i64)) 25 w' w.heap.size So ov (bfsTo n step start m).1 ∧ Kd.R (Kd.int .i64) 3 w' w.heap.size Sq qv (bfsTo n step start m).2 ∧ Below w.heap.size w w'
set_option maxHeartbeats 4000000 in
set_option maxRecDepth 100000 in
theorem explored_calls (n : Nat) (start : Int) (g : Nat) (lb : Array Value) (D : Int → Prop) (step : Int → Nat → Int × Bool) (m : Nat) (w : World) (hn : n ≤ 16) (hm : m ≤ 100000) (hend : (bfsTo n step start m).2.length ≤ m)
    (hp : StepW g lb D n step w) (h0 : D start) (hstep : ∀ x e, D x → e < n → (step x e).2 = true → D (step x e).1) (hD : ∀ x, D x → wf64 x)
    (eg : ∀ args w, (callFunc g args).run Tryd.prog w = .ok (.enter g args) w) :
    Calls Tryd.prog 24 #[.int .i64 n, .int .i64 start, .func (.func g) #[] lb] w (ExEnd n step start m w) := by
  have hmm := @run_makeMap Tryd.prog
  obtain ⟨wm, hrun, HM0, hgm⟩ := MapIs.put (mapIs_new w (Value.int .i64) encN wf64) keyInt Tryd.underlying65 (hD _ h0) 0
  have hrun' : (Instr.mapUpdate 65 (.map (some w.heap.size)) (.int .i64 start) (.int .i64 0)).run Tryd.prog (w.alloc (.map #[] 0)) = .ok () wm := hrun
  clear hrun
  have HP := Aside0.mk hp
  have HM0 := Aside0.mk HM0
  have HG := Aside0.mk hgm
  have HE := Aside0.mk hend
  have HS := Aside0.mk hstep
  have HD := Aside0.mk hD
  have HD0 := Aside0.mk h0
  clear hp hgm hend hstep hD h0
  go_enter Tryd.func24, Tryd.ntmps24
  go_wp2
  have HB0 := Aside0.mk (below_alloc (pw_below_grown (below_alloc (Below.refl _ _) _) _ (by simp) HG.out (fun k hk => by cases hk; exact Nat.le_refl _)) (.cells #[.int .i64 start] 3))
  have HQ0 := Aside0.mk (R_new1 wm start w.heap.size (by have := (HG.out).size; simp at this; omega))
  have HM1 := Aside0.mk (MapIs.below HM0.out (below_alloc (Below.refl _ _) (.cells #[.int .i64 start] 3)))
  clear HM0 HG hrun'
  go_loopg [9, 10, 11] m (fun gg v9 v10 v11 wr => ∃ (i : Nat) (So Sq : Nat → Prop), i ≤ m ∧ m - i ≤ gg ∧ v11 = .int .i64 i ∧ Aside0 (Disj So Sq) ∧ Aside0 (Below w.heap.size w wr) ∧ Aside0 (MapIs wr w.heap.size (Value.int .i64) encN wf64 (bfsTo n step start i).2.zipIdx) ∧ Aside0 (Kd.R (Kd.int .i64) 3 wr w.heap.size Sq v9 (bfsTo n step start i).2) ∧ Aside0 (Kd.R (Kd.slice 3 (Kd.int .i64)) 25 wr w.heap.size So v10 (bfsTo n step start i).1))
  case atStart =>
    exact ⟨0, fun _ => False, fun k => k = wm.heap.size, by omega, by omega, rfl, ⟨fun _ h => h.elim⟩, HB0, HM1, HQ0, ⟨Kd.R_nil _ _ _ _ _⟩⟩
  case round =>
    clear HB0 HQ0 HM1
    obtain ⟨i, So, Sq, him, hg, rfl, HDJ, HB, HM, HQ, HO⟩ := hrel
    obtain ⟨A9, c9, rfl⟩ := Kd.R_slice HQ.out
    obtain ⟨A10, c10, rfl⟩ := Kd.R_slice HO.out
    have hmono := Aside0.mk (Nat.le_trans (bfsTo_mono (n := n) (step := step) (start := start) him) HE.out)
    by_cases hlt : i < (bfsTo n step start i).2.length
    · have hltz : (i : Int) < ((bfsTo n step start i).2.length : Int) := by omega
      have HST := Aside0.mk (bfsTo_step (n := n) (step := step) (start := start) hlt)
      have hqm := Aside0.mk (Nat.le_trans (bfsTo_mono (n := n) (step := step) (start := start) (i := i + 1) (m := m) (by have := hmono.out; omega)) HE.out)
      have HXD := Aside0.mk (bfsTo_all (n := n) (D := D) HS.out HD0.out i _ (List.getElem_mem hlt))
      have HQD := Aside0.mk (bfsTo_all (n := n) (D := D) HS.out HD0.out i)
      have HXI := Aside0.mk (List.getElem?_eq_getElem hlt)
      have HOL := Aside0.mk (bfsTo_out (n := n) (step := step) (start := start) (i := i))
      generalize (bfsTo n step start i).2[i] = x at *
      rw [HST.out] at hqm
      have him2 : i + 1 ≤ m := by
        have h1 := hmono.out
        omega
      clear hmono
      generalize (bfsTo n step start i).2 = q at *
      generalize (bfsTo n step start i).1 = o at *
      go_wp2_with ((with_reducible refine gate_dst (N := 30) rfl ?_); refine Kd.R_make (Kd.int .i64) w.heap.size 3 rfl (N := 30) rfl 25 _ _ rfl (n : Int) rfl rfl Tryd.underlying25 (.int .i64 0) 8 info3 rfl (by decide) (by omega) 0 (ok := fun k => wr.heap.size ≤ k) (okp := fun _ => False) rfl (fun _ hk => hk.elim) (Nat.le_refl _) (by omega) (by omega) HB.out (HB.out).size ?_; intro v1 w1 hr1 hb1 hg1 hnew1)
      obtain ⟨rb, hrb, hrb2⟩ := hnew1
      obtain ⟨capr, hv1⟩ := R_formB hr1 hrb
      rw [List.length_replicate, Int.toNat_natCast] at hv1
      subst hv1
      have HR1 := Aside0.mk hr1
      have HB1 := Aside0.mk hb1
      have HM1 := Aside0.mk ((HM.out).grown hg1 (by simp))
      have HQ1 := Aside0.mk (R_stay HQ.out hg1 (by simp))
      have HO1 := Aside0.mk (R_stay HO.out hg1 (by simp))
      have HDJ1 := Aside0.mk ((HDJ.out).less wr.heap.size)
      have HDR1 := Aside0.mk (show Disj (fun k => So k ∧ k < wr.heap.size) (fun k => wr.heap.size ≤ k) from fun k ha hb => by have := ha.2; omega)
      have HDS1 := Aside0.mk (show Disj (fun k => Sq k ∧ k < wr.heap.size) (fun k => wr.heap.size ≤ k) from fun k ha hb => by have := ha.2; omega)
      clear hr1 hb1 hg1 HM HQ HO hrb hrb2 HDJ HB
      rw [Int.toNat_natCast] at HR1
      generalize (fun k => So k ∧ k < wr.heap.size) = So1 at *
      generalize (fun k => Sq k ∧ k < wr.heap.size) = Sq1 at *
      generalize (fun k => wr.heap.size ≤ k) = Sr1 at *
      go_wp2
      go_loopg [9, 32] n (fun gk v9 v32 wi => ∃ (e : Nat) (So Sq Sr : Nat → Prop), e ≤ n ∧ n - e ≤ gk ∧ v32 = .int .i64 e ∧ Aside0 (Disj So Sq) ∧ Aside0 (Disj So Sr) ∧ Aside0 (Disj Sq Sr) ∧ Aside0 (Below w.heap.size w wi) ∧
        Aside0 (MapIs wi w.heap.size (Value.int .i64) encN wf64 (rowTo step x q e).2.zipIdx) ∧ Aside0 (Kd.R (Kd.int .i64) 3 wi w.heap.size Sq v9 (rowTo step x q e).2) ∧
        Aside0 (Kd.R (Kd.slice 3 (Kd.int .i64)) 25 wi w.heap.size So (.slice A10 o.length c10) o) ∧ Aside0 (Kd.R (Kd.int .i64) 3 wi w.heap.size Sr (.slice (some ⟨rb, 0, none⟩) n capr) ((rowTo step x q e).1 ++ List.replicate (n - e) 0)))
      case atStart => exact ⟨0, So1, Sq1, Sr1, by omega, by omega, rfl, HDJ1, HDR1, HDS1, HB1, HM1, HQ1, HO1, HR1⟩
      case round =>
        clear HDJ1 HDR1 HDS1 HB1 HM1 HQ1 HO1 HR1 So1 Sq1 Sr1 So Sq
        obtain ⟨e, So, Sq, Sr, hen, hgk, rfl, HDJ, HDR, HDS, HB, HM, HQ, HO, HR⟩ := hrel
        by_cases hle : e < n
        · have hlez : (e : Int) < (n : Int) := by omega
          obtain ⟨A9, c9, rfl⟩ := Kd.R_slice HQ.out
          obtain ⟨hc1, hf1⟩ := Kd.R_celln 0 HR.out (e : Int) (by omega) (by omega)
          rw [Int.toNat_natCast] at hc1 hf1
          have HPUT := Kd.R_putg HR.out (e : Int) (-1)
          rw [Int.toNat_natCast, set_next rowTo_len hle] at HPUT
          have HRB := Aside0.mk (HR.out.1 rb rfl)
          have HPUT := Aside0.mk HPUT
          go_upto_region 12 with (fail)
          clear hc1 hf1
          have HR2 := Aside0.mk (HPUT.out).1
          have hg2 := (HPUT.out).2
          have HQ2 := Aside0.mk (R_stay HQ.out hg2 (fun k hk => by cases hk; exact fun h => HDS.out _ h HRB.out))
          have HO2 := Aside0.mk (R_stay HO.out hg2 (fun k hk => by cases hk; exact fun h => HDR.out _ h HRB.out))
          have HM2 := Aside0.mk (MapIs.stay HM.out HR.out hg2)
          have HB2 := Aside0.mk (pw_below_grown HB.out _ (HB.out).size hg2 (Kd.R_base HR.out))
          have HDJ2 := Aside0.mk ((HDJ.out).less wr.heap.size)
          have HDR2 := Aside0.mk (show Disj (fun k => So k ∧ k < wr.heap.size) Sr from fun k ha hb => HDR.out k ha.1 hb)
          have HDS2 := Aside0.mk (show Disj (fun k => Sq k ∧ k < wr.heap.size) Sr from fun k ha hb => HDS.out k ha.1 hb)
          clear HPUT HR HQ HO HM HB HDJ HDR HDS hg2
          generalize (wr.setCell ⟨rb, e, none⟩ (Value.int .i64 (-1))) = w2 at *
          generalize (fun k => So k ∧ k < wr.heap.size) = So2 at *
          generalize (fun k => Sq k ∧ k < wr.heap.size) = Sq2 at *
          have hpre : i < (rowTo step x q e).2.length ∧ rd (rowTo step x q e).2 (i : Int) = x := by
            obtain ⟨r, hr⟩ := rowTo_pre (step := step) (x := x) (q := q) (e := e)
            rw [hr]
            refine ⟨by rw [List.length_append]; omega, ?_⟩
            rw [rd_at (by rw [List.length_append]; omega), List.getElem_append_left (by omega)]
            exact (List.getElem?_eq_some_iff.1 HXI.out).2
          obtain ⟨hpre1, hpre2⟩ := hpre
          have hprez : (i : Int) < ((rowTo step x q e).2.length : Int) := by omega
          obtain ⟨ad, e0, hx⟩ := Kd.at_int (Kd.R_reads' HQ2.out).2.2 (i : Int) (by omega) hprez
          cases e0
          rw [Int.toNat_natCast, hpre2] at hx
          clear hpre2
          have hcall := Aside0.mk (HP.out w2 x e HB2.out HXD.out hle)
          have HRS := Aside0.mk (show rowTo step x q (e + 1) = if (step x e).2 then ((rowTo step x q e).1 ++ [((rowTo step x q e).2.idxOf (step x e).1 : Int)], ins (rowTo step x q e).2 (step x e).1) else ((rowTo step x q e).1 ++ [-1], (rowTo step x q e).2) from rfl)
          have HYD := Aside0.mk (HS.out x e HXD.out hle)
          have hqlen := Aside0.mk (Nat.le_trans (rowTo_mono (step := step) (x := x) (q := q) (e := e) (e' := n) (by omega)) hqm.out)
          have hqlen1 := Aside0.mk (Nat.le_trans (rowTo_mono (step := step) (x := x) (q := q) (e := e + 1) (e' := n) (by omega)) hqm.out)
          generalize (step x e).1 = y at *
          cases hok : (step x e).2 with
          | false =>
            simp only [hok, Bool.false_eq_true, if_false] at HRS hcall
            go_wp2_with fail
            refine hcall.out.mono ?_
            rintro E w3 ⟨rfl, hb⟩
            have HB3 := Aside0.mk (below_then HB2.out (HB2.out).size hb)
            have HM3 := Aside0.mk (MapIs.below HM2.out hb)
            have HQ3 := Aside0.mk (Kd.R_below HQ2.out hb)
            have HO3 := Aside0.mk (Kd.R_below HO2.out hb)
            have HR3 := Aside0.mk (Kd.R_below HR2.out hb)
            clear hb HB2 HM2 HQ2 HO2 HR2 hcall hx
            go_wp2
            go_roundg (n - (e + 1))
            case measure => omega
            case rel =>
              refine ⟨e + 1, So2, Sq2, Sr, by omega, by omega, by go_num, HDJ2, HDR2, HDS2, HB3, ?_, ?_, HO3, ?_⟩
              · rw [HRS.out]; exact HM3
              · rw [HRS.out]; exact HQ3
              · rw [HRS.out]; exact HR3
          | true =>
            simp only [hok, if_true] at HRS hcall
            have HY := Aside0.mk (HYD.out hok)
            clear hok HYD
            go_wp2_with fail
            refine hcall.out.mono ?_
            rintro E w3 ⟨rfl, hb⟩
            have HB3 := Aside0.mk (below_then HB2.out (HB2.out).size hb)
            have HM3 := Aside0.mk (MapIs.below HM2.out hb)
            have HQ3 := Aside0.mk (Kd.R_below HQ2.out hb)
            have HO3 := Aside0.mk (Kd.R_below HO2.out hb)
            have HR3 := Aside0.mk (Kd.R_below HR2.out hb)
            clear hb HB2 HM2 HQ2 HO2 HR2 hcall hx
            have hl := MapIs.look HM3.out keyInt Tryd.underlying65 (zero3 w3) (HD.out y HY.out) true
            rw [mget_zip] at hl
            have HRB := Aside0.mk (HR3.out.1 rb rfl)
            by_cases hmem : y ∈ (rowTo step x q e).2
            · simp only [hmem, if_true] at hl
              have HRS := Aside0.mk (HRS.out.trans (by rw [ins, if_pos hmem]))
              clear hmem
              generalize (rowTo step x q e).2 = qe at *
              generalize hk : (List.idxOf y qe) = kk at *
              have HPUT := Kd.R_putg HR3.out (e : Int) (kk : Int)
              rw [Int.toNat_natCast, set_last rowTo_len] at HPUT
              obtain ⟨hc1, hf1⟩ := Kd.R_celln 0 HR3.out (e : Int) (by omega) (by omega)
              rw [Int.toNat_natCast] at hc1 hf1
              have HPUT := Aside0.mk HPUT
              unfold encN at hl
              go_wp2
              go_roundg (n - (e + 1))
              case measure => omega
              case rel =>
                have hg4 := (HPUT.out).2
                refine ⟨e + 1, fun k => So2 k ∧ k < w3.heap.size, fun k => Sq2 k ∧ k < w3.heap.size, Sr, by omega, by omega, by go_num, ⟨(HDJ2.out).less w3.heap.size⟩, ⟨fun k ha hb => HDR2.out k ha.1 hb⟩, ⟨fun k ha hb => HDS2.out k ha.1 hb⟩, ⟨pw_below_grown HB3.out _ (HB3.out).size hg4 (Kd.R_base HR3.out)⟩, ?_, ?_, ⟨R_stay HO3.out hg4 (fun k hk => by cases hk; exact fun h => HDR2.out _ h HRB.out)⟩, ?_⟩
                · rw [HRS.out]; exact ⟨MapIs.stay HM3.out HR3.out hg4⟩
                · rw [HRS.out]; exact ⟨R_stay HQ3.out hg4 (fun k hk => by cases hk; exact fun h => HDS2.out _ h HRB.out)⟩
                · rw [HRS.out]; exact ⟨(HPUT.out).1⟩
            · simp only [hmem, if_false] at hl
              have HRS := Aside0.mk (HRS.out.trans (by rw [ins, if_neg hmem, idxOf_new hmem]))
              have HNEW := Aside0.mk (mput_zip hmem)
              rw [HRS.out] at hqlen1
              clear hmem
              generalize (rowTo step x q e).2 = qe at *
              obtain ⟨w4, hput, HM4, hg4⟩ := MapIs.put HM3.out keyInt Tryd.underlying65 (HD.out y HY.out) qe.length
              rw [HNEW.out] at HM4
              have HM4 := Aside0.mk HM4
              have HB4 := Aside0.mk (pw_below_grown HB3.out _ (HB3.out).size hg4 (fun k hk => by cases hk; exact Nat.le_refl _))
              have hmb : ∀ {α : Type} {d : Kd α} {e base : Nat} {S : Nat → Prop} {v : Value} {xs : List α}, d.R e w3 base S v xs → d.R e w4 base (fun k => S k ∧ k < w3.heap.size) v xs := fun h =>
                Kd.R_mono (Kd.R_step (Kd.R_bound h) (fun k hk hlt => hg4.block k hlt (fun he => by
                  cases he
                  obtain ⟨_, _, _, q, _, cells, hc⟩ := hk
                  exact (HM3.out).ne_row hc rfl))) (fun k hk => ⟨hk.1, hk.2.2.1⟩)
              have HQ4 := Aside0.mk (hmb HQ3.out)
              have HO4 := Aside0.mk (hmb HO3.out)
              have HR4 := Aside0.mk (hmb HR3.out)
              have HDJ4 := Aside0.mk ((HDJ2.out).less w3.heap.size)
              have HDR4 := Aside0.mk ((HDR2.out).less w3.heap.size)
              have HDS4 := Aside0.mk ((HDS2.out).less w3.heap.size)
              have HG4 := Aside0.mk hg4
              clear hmb HM3 HQ3 HO3 HR3 HDJ2 HDR2 HDS2 hg4 HRB HB3
              unfold encN at hput
              rw [if_pos trivial] at hl
              generalize (fun k => So2 k ∧ k < w3.heap.size) = So4 at *
              generalize (fun k => Sq2 k ∧ k < w3.heap.size) = Sq4 at *
              generalize (fun k => Sr k ∧ k < w3.heap.size) = Sr4 at *
              have hlen5 : (qe.length + 1) * 8 ≤ 140737488355328 := by
                have := hqlen1.out
                simp only [List.length_append, List.length_singleton] at this
                omega
              go_wp2_with ((with_reducible refine gate_builtin (b := .append) (xs := #[.tmp 63, .tmp 65]) rfl ?_); at_builtin; refine Kd.R_append (Kd.int .i64) (w0 := w) w.heap.size rfl (.tmp 63) (.tmp 65) 25 3 (.int .i64 0) 8 rfl Tryd.underlying25 info3 rfl (by decide) (by omega) (.slice (some ad) qe.length c9) qe y [.int .i64 y] (fun k => Sq4 k ∨ w4.heap.size ≤ k) (fun _ => False) rfl rfl rfl (fun _ hk => hk.elim) (fun k hk => .inr hk) (Kd.R_mono HQ4.out (fun _ hk => .inl hk)) HB4.out (HB4.out).size hlen5 ?_; intro v5 w5 ho5 hb5 hg5 hat5; have HQ5 := Aside0.mk ho5; have HB5 := Aside0.mk hb5; have HM5 := Aside0.mk (MapIs.stay HM4.out HQ4.out hg5); have HO5 := Aside0.mk (R_stay HO4.out hg5 (fun k hk h => HDJ4.out k h (HQ4.out.1 k hk))); have HR5 := Aside0.mk (R_stay HR4.out hg5 (fun k hk h => HDS4.out k (HQ4.out.1 k hk) h)); clear ho5 hb5 hg5 hat5 HQ4 HB4 HM4; (obtain ⟨hc1, hf1⟩ := Kd.R_celln 0 HR5.out (e : Int) (by omega) (by omega)); rw [Int.toNat_natCast] at hc1 hf1)
              have HPUT := Kd.R_putg HR5.out (e : Int) (qe.length : Int)
              rw [Int.toNat_natCast, set_last rowTo_len] at HPUT
              have HPUT := Aside0.mk HPUT
              have HRB := Aside0.mk (HR5.out.1 rb rfl)
              go_roundg (n - (e + 1))
              case measure => omega
              case rel =>
                have hg6 := (HPUT.out).2
                have HDR5 := (HDR4.out).less w4.heap.size
                have HDJ5 := (HDJ4.out).symm.fresh w4.heap.size
                have HDS5 := (HDS4.out).fresh w4.heap.size
                refine ⟨e + 1, _, fun k => (Sq4 k ∨ w4.heap.size ≤ k) ∧ k < w5.heap.size, _, by omega, by omega, by go_num, ⟨fun k ha hb => HDJ5 k hb.1 ha.1⟩, ⟨fun k ha hb => HDR5 k ha.1 hb⟩, ⟨fun k ha hb => HDS5 k ha.1 hb⟩, ⟨pw_below_grown HB5.out _ (HB5.out).size hg6 (Kd.R_base HR5.out)⟩, ?_, ?_, ⟨R_stay HO5.out hg6 (fun k hk => by cases hk; exact fun h => HDR5 _ h HRB.out)⟩, ?_⟩
                · rw [HRS.out]; exact ⟨MapIs.stay HM5.out HR5.out hg6⟩
                · rw [HRS.out]; exact ⟨R_stay HQ5.out hg6 (fun k hk => by cases hk; exact fun h => HDS5 _ h HRB.out)⟩
                · rw [HRS.out]; exact ⟨(HPUT.out).1⟩
        · have hlez : ¬ (e : Int) < (n : Int) := by omega
          obtain rfl : e = n := by omega
          obtain ⟨A9, c9, rfl⟩ := Kd.R_slice HQ.out
          rw [Nat.sub_self, List.replicate_zero, List.append_nil] at HR
          have hlo : (o.length + 1) * 24 ≤ 140737488355328 := by have := HOL.out; omega
          go_wp2_with ((with_reducible refine gate_builtin (b := .append) (xs := #[.tmp 72, .tmp 74]) rfl ?_); at_builtin; refine Kd.R_append (Kd.slice 3 (Kd.int .i64)) (w0 := w) w.heap.size rfl (.tmp 72) (.tmp 74) 45 25 (.slice none 0 0) 24 rfl Tryd.underlying45 info25 rfl (by decide) (by omega) (.slice A10 o.length c10) o (rowTo step x q e).1 [.slice (some ⟨rb, 0, none⟩) e capr] (fun k => (So k ∨ Sr k) ∨ wr.heap.size ≤ k) Sr rfl rfl ⟨_, rfl, HR.out⟩ (fun k hk => ⟨.inl (.inr hk), fun he => HDR.out k (HO.out.1 k he.symm) hk⟩) (fun k hk => .inr hk) (Kd.R_mono HO.out (fun _ hk => .inl (.inl hk))) HB.out (HB.out).size hlo ?_; intro v5 w5 ho5 hb5 hg5 hat5; have HO5 := Aside0.mk ho5; have HB5 := Aside0.mk hb5; have HM5 := Aside0.mk (MapIs.stay HM.out HO.out hg5); have HQ5 := Aside0.mk (R_stay HQ.out hg5 (fun k hk h => HDJ.out k (HO.out.1 k hk) h)); clear ho5 hb5 hg5 hat5 HO HB HM HQ HR)
          go_roundg (m - (i + 1))
          case measure => omega
          case rel =>
            refine ⟨i + 1, fun k => (So k ∨ Sr k) ∨ wr.heap.size ≤ k, fun k => Sq k ∧ k < wr.heap.size, him2, by omega, by go_num, ?_, HB5, ?_, ?_, ?_⟩
            rotate_left 1
            · rw [HST.out]; exact HM5
            · rw [HST.out]; exact HQ5
            · rw [HST.out]; exact HO5
            · refine ⟨fun k ha hb => ?_⟩
              rcases ha with (ha | ha) | ha
              · exact HDJ.out k ha hb.1
              · exact HDS.out k hb.1 ha
              · have := hb.2; omega
    · have hltz : ¬ (i : Int) < ((bfsTo n step start i).2.length : Int) := by omega
      have HFin := Aside0.mk (show bfsTo n step start m = bfsTo n step start i by
        have := bfsTo_stays (n := n) (step := step) (start := start) hlt (m - i)
        rwa [show i + (m - i) = m from by omega] at this)
      clear hmono
      generalize hq : (bfsTo n step start i) = bi at *
      clear hq
      go_wp2
      go_ret2
      refine ⟨_, _, So, Sq, rfl, HDJ.out, ?_, ?_, HB.out⟩
      · rw [HFin.out]; exact HO.out
      · rw [HFin.out]; exact HQ.out
end Go.Proofs.YtmphigeefppfpaaDoor.H
namespace Go.Proofs.YtmphigeefppfpaaDoor.H
open Go.RowKit Go.Proofs.YtmphigeefppfpaaDoorW.PrintWords Go.Proofs.YtmphigeefppfpaaDoorW.PrintLast Go.Proofs.YtmphigeefppfpaaDoorW.PrintMore
set_option linter.unusedVariables false
def stepS (l : List (List Int)) (x : Int) (e : Nat) : Int × Bool := (stepAt l x e, decide (stepAt l x e ≥ 0))
def domS (l : List (List Int)) (x : Int) : Prop := 0 ≤ x ∧ x < (l.length : Int)
set_option maxHeartbeats 1000000 in
theorem reached1_calls (x : Int) (e : Nat) (ev st : Int) (A : Option Addr) (c : Nat) (l : List (List Int)) (sb : Nat) (w : World) (hb : w.heap[sb]? = some (.cells #[.int .i64 ev, .int .i64 st, .slice A l.length c] 24 (0, 0))) (hr : Kd.C (Kd.slice 3 (Kd.int .i64)) w A l.length l) (hs : specOk ev st l = true) (hx : domS l x) (he : (e : Int) < ev) :
    Calls Tryd.prog 26 #[.int .i64 x, .int .i64 e, .pointer (some ⟨sb, 0, none⟩)] w fun E w' => E = .returned (.tuple #[.int .i64 (stepS l x e).1, .bool (stepS l x e).2]) ∧ Below w.heap.size w w' := by
  obtain ⟨hx0, hx1⟩ := hx
  obtain ⟨ad2, A0, c0, e0, hx2, hl0, hr0⟩ := Q.at_L1 hr x hx0 hx1
  cases e0
  have hlen := (specOk_row hs hx0 hx1).1
  obtain ⟨ad3, e0, hx3⟩ := Kd.at_int hr0 (e : Int) (by omega) (by omega)
  cases e0
  rw [Int.toNat_natCast] at hx3
  have hz : w.cell? ⟨sb, 2, none⟩ = some (.slice (some ad2) l.length c) := (blk_cell hb 2).trans rfl
  have hey : (e : Int) < ((Q.rd_L1 l x).length : Int) := by omega
  unfold stepS stepAt
  clear hlen hr hs hb hr0
  generalize Q.rd_L1 l x = y at *
  generalize rd y (e : Int) = r at *
  have hle0 : decide (0 ≤ x) = true := by simpa using hx0
  have hle1 : decide (x < (l.length : Int)) = true := by simpa using hx1
  go_enter Tryd.func26, Tryd.ntmps26
  go_wp2
  repeat (go_quiet (fail); try go_wp2)
  go_ret2
  exact ⟨rfl, by repeat (first | exact Below.refl _ _ | apply pw_below_drewN | apply below_drew)⟩
theorem bfs_size {n : Nat} {step : Int → Nat → Int × Bool} {start : Int} {N : Nat} (hstep : ∀ x e, (0 ≤ x ∧ x < (N : Int)) → e < n → (step x e).2 = true → (0 ≤ (step x e).1 ∧ (step x e).1 < (N : Int))) (h0 : 0 ≤ start ∧ start < (N : Int)) (m : Nat) : (bfsTo n step start m).2.length ≤ N := by
  have hD := bfsTo_all (n := n) (D := fun x : Int => 0 ≤ x ∧ x < (N : Int)) hstep h0 m
  have hN := bfsTo_nodup (n := n) (step := step) (start := start) m
  have h2 : ((bfsTo n step start m).2.map Int.toNat).Nodup := by
    refine List.Pairwise.map _ ?_ (List.Pairwise.imp_of_mem (R := fun a b => a ≠ b) (S := fun a b => a.toNat ≠ b.toNat) ?_ hN)
    · exact fun a b h => h
    · intro a b ha hb hne he
      have := hD a ha; have := hD b hb
      exact hne (by omega)
  have h3 := h2.length_le_of_subset (l₂ := List.range N) (fun x hx => by
    obtain ⟨a, ha, rfl⟩ := List.mem_map.1 hx
    have := hD a ha
    exact List.mem_range.2 (by omega))
  simpa using h3
theorem bfs_size' {n : Nat} {step : Int → Nat → Int × Bool} {start : Int} {N : Nat} {D : Int → Prop} (hDN : ∀ x, D x → 0 ≤ x ∧ x < (N : Int)) (hstep : ∀ x e, D x → e < n → (step x e).2 = true → D (step x e).1) (h0 : D start) (m : Nat) : (bfsTo n step start m).2.length ≤ N := by
  have hD := bfsTo_all (n := n) hstep h0 m
  have hN := bfsTo_nodup (n := n) (step := step) (start := start) m
  have h2 : ((bfsTo n step start m).2.map Int.toNat).Nodup := by
    refine List.Pairwise.map _ ?_ (List.Pairwise.imp_of_mem (R := fun a b => a ≠ b) (S := fun a b => a.toNat ≠ b.toNat) ?_ hN)
    · exact fun a b h => h
    · intro a b ha hb hne he
      have := hDN a (hD a ha); have := hDN b (hD b hb)
      exact hne (by omega)
  have h3 := h2.length_le_of_subset (l₂ := List.range N) (fun x hx => by
    obtain ⟨a, ha, rfl⟩ := List.mem_map.1 hx
    have := hDN a (hD a ha)
    exact List.mem_range.2 (by omega))
  simpa using h3
theorem stepS_dom {ev st : Int} {l : List (List Int)} (hs : specOk ev st l = true) : ∀ x e, domS l x → e < ev.toNat → (stepS l x e).2 = true → domS l (stepS l x e).1 := by
  intro x e hx he h
  have := stepAt_range hs (q := x) (x := (e : Int)) hx.1 hx.2 (by omega) (by have := headOk_true (specOk_head hs); omega)
  simp only [stepS, decide_eq_true_eq] at h ⊢
  exact ⟨h, this.2⟩
def reachB (ev st : Int) (l : List (List Int)) : List (List Int) × List Int := bfsTo ev.toNat (stepS l) st l.length
def ReachEnd (ev st : Int) (l : List (List Int)) (w : World) (E : Ending) (w' : World) : Prop := ∃ (ov : Value) (So : Nat → Prop), E = .returned ov ∧ Kd.R (Kd.slice 3 (Kd.int .i64)) 25 w' w.heap.size So ov (reachB ev st l).1 ∧ Below w.heap.size w w'
theorem wf_small {x : Int} (h0 : 0 ≤ x) (h1 : x < 9223372036854775808) : wf64 x := by
  simp [wf64, Lit.wf, IntKind.min, IntKind.max, IntKind.signed, IntKind.bits]; omega
set_option maxHeartbeats 1000000 in
theorem reached_calls (ev st : Int) (A : Option Addr) (c : Nat) (l : List (List Int)) (w : World) (hr : Kd.C (Kd.slice 3 (Kd.int .i64)) w A l.length l) (hs : specOk ev st l = true) :
    Calls Tryd.prog 14 #[.agg #[.int .i64 ev, .int .i64 st, .slice A l.length c]] w (ReachEnd ev st l w) := by
  have hmf := run_mkfun
  have hh := headOk_true (specOk_head hs)
  obtain ⟨n, hn⟩ : ∃ n : Nat, ev = (n : Int) := ⟨ev.toNat, by omega⟩
  have HW0 := Aside0.mk (below_alloc (Below.refl w.heap.size w) (.cells #[.int .i64 ev, .int .i64 st, .slice A l.length c] 24))
  have HX := Aside0.mk (blk_new w (.cells #[.int .i64 ev, .int .i64 st, .slice A l.length c] 24))
  have HC := Aside0.mk (explored_calls n st 26 #[.pointer (some ⟨w.heap.size, 0, none⟩)] (domS l) (stepS l) l.length (w.alloc (.cells #[.int .i64 ev, .int .i64 st, .slice A l.length c] 24)) (by omega) (by omega)
    (bfs_size (fun x e hx he h => stepS_dom hs x e hx (by omega) h) ⟨by omega, by omega⟩ _)
    (fun W x e hW hx he => reached1_calls x e ev st A c l w.heap.size W (blk_below HX.out hW) (Kd.C_below hr (below_then HW0.out (HW0.out).size hW)) hs hx (by omega))
    ⟨by omega, by omega⟩ (fun x e hx he h => stepS_dom hs x e hx (by omega) h) (fun x hx => wf_small hx.1 (by have := hx.2; omega)) (fun _ _ => rfl))
  have HN := Aside0.mk hn
  clear hr hs hh hn
  unfold ReachEnd reachB
  obtain rfl := HN.out
  go_enter Tryd.func14, Tryd.ntmps14
  go_wp2_with fail
  refine HC.out.mono ?_
  rintro E w2 ⟨ov, qv, So, Sq, rfl, _, ho, _, hb⟩
  have HO := Aside0.mk ho
  have HB := Aside0.mk (below_then HW0.out (HW0.out).size hb)
  have HL := Aside0.mk (HW0.out).size
  clear ho hb HC HX HN
  go_wp2
  go_ret
  exact ⟨_, So, rfl, Kd.R_lower HO.out HL.out, HB.out⟩
end Go.Proofs.YtmphigeefppfpaaDoor.H
namespace Go.Proofs.YtmphigeefppfpaaDoor.H
open Go.RowKit Go.Proofs.YtmphigeefppfpaaDoorW.PrintWords Go.Proofs.YtmphigeefppfpaaDoorW.PrintLast Go.Proofs.YtmphigeefppfpaaDoorW.PrintMore
set_option linter.unusedVariables false
def graphOk (n : Nat) (g : List (List Int)) : Prop := ∀ row ∈ g, row.length = n ∧ ∀ r ∈ row, -1 ≤ r ∧ r < (g.length : Int)
def firstTo (K : List Int) : Nat → List (Int × Nat)
  | 0 => []
  | d + 1 => mput (rd K ((K.length - 1 - d : Nat) : Int)) (K.length - 1 - d) (firstTo K d)
theorem firstTo_get (K : List Int) (d : Nat) (hd : d ≤ K.length) (x : Int) : mget x (firstTo K d) = if x ∈ K.drop (K.length - d) then some (K.length - d + place x (K.drop (K.length - d))) else none := by
  induction d with
  | zero => rw [Nat.sub_zero, List.drop_eq_nil_of_le (Nat.le_refl _)]; simp [firstTo, mget]
  | succ d ih =>
    have hlt : K.length - 1 - d < K.length := by omega
    simp only [firstTo]
    rw [mget_mput, ih (by omega), show K.length - (d + 1) = K.length - 1 - d from by omega, List.drop_eq_getElem_cons hlt, rd_at hlt, show K.length - 1 - d + 1 = K.length - d from by omega]
    by_cases hx : x = K[K.length - 1 - d]
    · rw [if_pos hx, if_pos (by rw [hx]; exact List.mem_cons_self)]
      simp [place, hx]
    · rw [if_neg hx]
      simp only [List.mem_cons, hx, false_or]
      split
      · rw [place, place, List.idxOf_cons, beq_eq_false_iff_ne.2 (Ne.symm hx)]
        simp only [cond_false]
        congr 1; omega
      · rfl
theorem firstTo_all (K : List Int) (x : Int) (hx : x ∈ K) : mget x (firstTo K K.length) = some (place x K) := by
  rw [firstTo_get K K.length (Nat.le_refl _)]
  simp [hx]
theorem place_lt {x : Int} {K : List Int} (hx : x ∈ K) : place x K < K.length := List.idxOf_lt_length_of_mem hx
def stepL (g : List (List Int)) (K : List Int) (x : Int) (e : Nat) : Int × Bool :=
  if rd (Q.rd_L1 g (place x K : Nat)) e < 0 then (0, false) else (rd K (rd (Q.rd_L1 g (place x K : Nat)) e), true)
theorem row_at {n : Nat} {g : List (List Int)} (hok : graphOk n g) {j : Nat} (hj : j < g.length) : (Q.rd_L1 g (j : Int)).length = n ∧ ∀ r ∈ Q.rd_L1 g (j : Int), -1 ≤ r ∧ r < (g.length : Int) := by
  rw [rdL_at hj]; exact hok _ (List.getElem_mem hj)
theorem stepL_dom {n : Nat} {g : List (List Int)} {K : List Int} (hok : graphOk n g) (hK : K.length = g.length) (x : Int) (e : Nat) (hx : x ∈ K) (he : e < n) (h : (stepL g K x e).2 = true) : (stepL g K x e).1 ∈ K := by
  have h1 := row_at hok (j := place x K) (by rw [← hK]; exact place_lt hx)
  have h2 := h1.2 (rd (Q.rd_L1 g (place x K : Nat)) e) (rd_mem (by omega))
  unfold stepL at h ⊢
  split
  · rename_i hneg
    rw [if_pos hneg] at h; cases h
  · exact rd_mem' (by omega) (by omega)
set_option maxHeartbeats 1000000 in
theorem least1_calls (n : Nat) (g : List (List Int)) (K : List Int) (A AK : Option Addr) (cg ck : Nat) (gb fb cb MB : Nat) (x : Int) (e : Nat) (w : World) (hg : w.heap[gb]? = some (.cells #[.slice A g.length cg] 45 (0, 0))) (hf : w.heap[fb]? = some (.cells #[.map (some MB)] 65 (0, 0))) (hc : w.heap[cb]? = some (.cells #[.slice AK K.length ck] 25 (0, 0)))
    (hm : MapIs w MB (Value.int .i64) encN wf64 (firstTo K K.length)) (hr : Kd.C (Kd.slice 3 (Kd.int .i64)) w A g.length g) (hk : Kd.C (Kd.int .i64) w AK K.length K) (hok : graphOk n g) (hK : K.length = g.length) (hwf : ∀ x ∈ K, wf64 x) (hx : x ∈ K) (he : e < n) :
    Calls Tryd.prog 25 #[.int .i64 x, .int .i64 e, .pointer (some ⟨gb, 0, none⟩), .pointer (some ⟨fb, 0, none⟩), .pointer (some ⟨cb, 0, none⟩)] w fun E w' => E = .returned (.tuple #[.int .i64 (stepL g K x e).1, .bool (stepL g K x e).2]) ∧ Below w.heap.size w w' := by
  have hpl : place x K < g.length := by rw [← hK]; exact place_lt hx
  have hrow := row_at hok hpl
  have hrange := hrow.2 (rd (Q.rd_L1 g (place x K : Nat)) e) (rd_mem (by omega))
  have hl := MapIs.look hm keyInt Tryd.underlying65 (zero3 w) (hwf x hx) false
  rw [firstTo_all K x hx] at hl
  simp only [Bool.false_eq_true, if_false] at hl
  have hl' : (Instr.lookup 65 (.map (some MB)) (.int .i64 x) false).run Tryd.prog w = .ok (.int .i64 (place x K : Nat)) w := hl
  clear hl
  obtain ⟨ad, A0, c0, e0, hxr, hlr, hrr⟩ := Q.at_L1 hr (place x K : Nat) (by omega) (by omega)
  cases e0
  rw [Int.toNat_natCast] at hxr
  obtain ⟨ad2, e0, hxe⟩ := Kd.at_int hrr (e : Int) (by omega) (by omega)
  cases e0
  rw [Int.toNat_natCast] at hxe
  have hz0 : w.cell? ⟨gb, 0, none⟩ = some (.slice (some ad) g.length cg) := (blk_cell hg 0).trans rfl
  have hz1 : w.cell? ⟨fb, 0, none⟩ = some (.map (some MB)) := (blk_cell hf 0).trans rfl
  have hplz : ((place x K : Nat) : Int) < (g.length : Int) := by omega
  have hez : (e : Int) < ((Q.rd_L1 g (place x K : Nat)).length : Int) := by omega
  have HH := Aside0.mk (show stepL g K x e = if rd (Q.rd_L1 g (place x K : Nat)) e < 0 then (0, false) else (rd K (rd (Q.rd_L1 g (place x K : Nat)) e), true) from rfl)
  clear hrow hg hf hm hr hok hrr hwf hx
  have HKL := Aside0.mk hK
  clear hK
  generalize Q.rd_L1 g (place x K : Nat) = y at *
  generalize rd y (e : Int) = r at *
  generalize place x K = p at *
  obtain ⟨hr0, hr1⟩ := hrange
  by_cases hneg : r < 0
  · have hn : decide (r < 0) = true := by simpa using hneg
    rw [if_pos hneg] at HH
    clear hneg
    rw [HH.out]
    go_enter Tryd.func25, Tryd.ntmps25
    go_wp2
    go_ret2
    exact ⟨rfl, Below.refl _ _⟩
  · have hn : decide (r < 0) = false := by simpa using hneg
    rw [if_neg hneg] at HH
    obtain ⟨ad3, e0, hxk⟩ := Kd.at_int hk r (by omega) (by have := HKL.out; omega)
    cases e0
    have hz2 : w.cell? ⟨cb, 0, none⟩ = some (.slice (some ad3) K.length ck) := (blk_cell hc 0).trans rfl
    have hrk : r < (K.length : Int) := by have := HKL.out; omega
    have hr00 : 0 ≤ r := by omega
    clear hneg hk hc
    rw [HH.out]
    go_enter Tryd.func25, Tryd.ntmps25
    go_wp2
    go_ret2
    exact ⟨rfl, Below.refl _ _⟩
end Go.Proofs.YtmphigeefppfpaaDoor.H
namespace Go.Proofs.YtmphigeefppfpaaDoorW.PrintWords
open Go.RowKit Go.Maps Go.ChangeMaps
theorem mapM_some {α β : Type} {f : α → Option β} : ∀ (l : List α), (∀ x ∈ l, ∃ y, f x = some y) → ∃ ys, l.mapM f = some ys
  | [], _ => ⟨[], rfl⟩
  | x :: l, h => by
    obtain ⟨y, hy⟩ := h x List.mem_cons_self
    obtain ⟨ys, hys⟩ := mapM_some l (fun z hz => h z (List.mem_cons_of_mem _ hz))
    exact ⟨y :: ys, by simp [List.mapM_cons, hy, hys]⟩
def encA (q : IntKind) (xs : List Int) : Value := .agg (xs.map (Value.int q)).toArray
theorem keyLits_arr {P : Program} {k e : TypeId} {q : IntKind} {n : Nat} (hk : P.underlying k = some (.array n e)) (he : P.underlying e = some (.int q)) (ce : P.cellsOf e = 1) (ck : P.cellsOf k = n) {xs : List Int} (hl : xs.length = n) (hw : ∀ x ∈ xs, (Lit.int q x).wf = true) (d : Nat) :
    ∃ ls, P.keyLits (d + 2) k (xs.map (Value.int q)) = some ls := by
  rw [Program.keyLits.eq_def]
  simp only [hk]
  rw [if_pos (by rw [List.length_map, hl, ck])]
  obtain ⟨ys, hys⟩ := mapM_some (f := fun i => P.keyLits (d + 1) e (((xs.map (Value.int q)).drop (i * P.cellsOf e)).take (P.cellsOf e))) (List.range n) (fun i hi => by
    have hi' : i < xs.length := by rw [hl]; exact List.mem_range.1 hi
    rw [ce, Nat.mul_one, List.drop_eq_getElem_cons (by rw [List.length_map]; exact hi'), List.take_succ_cons, List.take_zero, List.getElem_map]
    refine ⟨[.int q xs[i]], ?_⟩
    rw [Program.keyLits.eq_def]
    simp only [he]
    rw [if_pos ⟨trivial, hw _ (List.getElem_mem hi')⟩])
  exact ⟨ys.flatten, by rw [hys]; rfl⟩
theorem cells_encA {q : IntKind} {xs : List Int} : (encA q xs).cells.toList = xs.map (Value.int q) := by simp [encA, Value.cells]
theorem keyArr {P : Program} {k e : TypeId} {q : IntKind} {n : Nat} (hl : laidOutB P = true) (hrow : k < P.types.size) (hkt : P.keyTypeAt 5 k = true) (hkey : P.keyType k = true) (hk : P.underlying k = some (.array n e)) (he : P.underlying e = some (.int q)) (ce : P.cellsOf e = 1) (ck : P.cellsOf k = n) (hsz : 1 ≤ P.types.size) :
    KeyB P k (encA q) (fun xs => xs.length = n ∧ ∀ x ∈ xs, (Lit.int q x).wf = true) where
  K := Keyed.of_law (deep_law_laid hl (m := 5) (by decide) hrow hkt (by simp only [hk]))
  lit := fun xs hx => by
    obtain ⟨d, hd⟩ : ∃ d, P.types.size + 1 = d + 2 := ⟨P.types.size - 1, by omega⟩
    obtain ⟨ls, hls⟩ := keyLits_arr hk he ce ck hx.1 hx.2 d
    refine ⟨.string (keyBytes ls), ?_⟩
    simp only [keyOf, hk]
    rw [if_pos (by rw [hkey, Bool.true_and]; simp [encA, Value.formed, hk, ck, hx.1]), cells_encA, hd, hls]
    rfl
  inj := fun xs ys h => by
    simp only [encA, Value.agg.injEq] at h
    have h2 : xs.map (Value.int q) = ys.map (Value.int q) := congrArg Array.toList h
    have hinj : ∀ a b : Int, Value.int q a = Value.int q b → a = b := fun a b h => by cases h; rfl
    exact (List.map_inj_right hinj).1 h2
end Go.Proofs.YtmphigeefppfpaaDoorW.PrintWords
namespace Go.Proofs.YtmphigeefppfpaaDoor.H
open Go.RowKit Go.Proofs.YtmphigeefppfpaaDoorW.PrintWords Go.Proofs.YtmphigeefppfpaaDoorW.PrintLast Go.Proofs.YtmphigeefppfpaaDoorW.PrintMore
set_option linter.unusedVariables false
theorem Q_rdL_at {xs : List (List Int)} {j : Nat} (h : j < xs.length) : Q.rd_L1 xs (j : Int) = xs[j] := by
  simp [Q.rd_L1, List.getD_eq_getElem?_getD, List.getElem?_eq_getElem h]
def faceV (c : List Int) (r : Int) : Int := if r < 0 then -1 else rd c r
def faceTo (c : List Int) (h : Int) (row : List Int) (e : Nat) : List Int := (h :: (row.take e).map (faceV c)) ++ List.replicate (17 - (e + 1)) 0
def face (c : List Int) (g : List (List Int)) (q : Nat) : List Int := faceTo c (rd c q) (Q.rd_L1 g q) (Q.rd_L1 g q).length
def facesTo (c : List Int) (g : List (List Int)) : Nat → List (List Int) × List Int
  | 0 => ([], [])
  | j + 1 => (ins (facesTo c g j).1 (face c g j), (facesTo c g j).2 ++ [(place (face c g j) (facesTo c g j).1 : Int)])
def clsTo (g : List (List Int)) : Nat → List Int × Nat
  | 0 => (List.replicate g.length 0, 1)
  | k + 1 => ((facesTo (clsTo g k).1 g g.length).2, (facesTo (clsTo g k).1 g g.length).1.length)
def faceW (c : List Int) (h : Int) (row : List Int) (e : Nat) (v : Int) : List Int := ((h :: (row.take e).map (faceV c)) ++ [v]) ++ List.replicate (17 - (e + 1 + 1)) 0
theorem faceTo_len {c : List Int} {h : Int} {row : List Int} {e : Nat} (he : e ≤ row.length) (hr : row.length ≤ 16) : (faceTo c h row e).length = 17 := by
  simp [faceTo, List.length_take]; omega
theorem faceTo_set {c : List Int} {h : Int} {row : List Int} {e : Nat} (he : e < row.length) (hr : row.length ≤ 16) (v : Int) : (faceTo c h row e).set (e + 1) v = faceW c h row e v := by
  unfold faceTo faceW
  exact set_next (by simp [List.length_take]; omega) (by omega) v
theorem faceW_set {c : List Int} {h : Int} {row : List Int} {e : Nat} (he : e < row.length) (u v : Int) : (faceW c h row e u).set (e + 1) v = faceW c h row e v := by
  unfold faceW
  exact set_last (by simp [List.length_take]; omega) u v
theorem faceTo_succ {c : List Int} {h : Int} {row : List Int} {e : Nat} (he : e < row.length) : faceTo c h row (e + 1) = faceW c h row e (faceV c (rd row e)) := by
  unfold faceTo faceW
  rw [List.take_succ_eq_append_getElem he, List.map_append, rd_at he]
  simp
def cellsOfL (xs : List Int) : Array Value := (xs.map (Value.int .i64)).toArray
theorem cells_set (xs : List Int) (i : Nat) (v : Int) : (cellsOfL xs).setIfInBounds i (.int .i64 v) = cellsOfL (xs.set i v) := by
  simp [cellsOfL, List.map_set]
theorem cells_at {xs : List Int} {i : Nat} (h : i < xs.length) : (cellsOfL xs)[i]? = some (.int .i64 xs[i]) := by
  simp [cellsOfL, h]
theorem facesTo_len (c : List Int) (g : List (List Int)) (j : Nat) : (facesTo c g j).2.length = j := by
  induction j with
  | zero => rfl
  | succ j ih => simp [facesTo, ih]
theorem clsTo_len (g : List (List Int)) (k : Nat) : (clsTo g k).1.length = g.length := by
  cases k with
  | zero => simp [clsTo]
  | succ k => simp only [clsTo]; exact facesTo_len _ _ _
theorem facesTo_many (c : List Int) (g : List (List Int)) (j : Nat) : (facesTo c g j).1.length ≤ j := by
  induction j with
  | zero => simp [facesTo]
  | succ j ih =>
    simp only [facesTo, ins]
    split
    · omega
    · simp; omega
theorem facesTo_range (c : List Int) (g : List (List Int)) (j : Nat) : ∀ x ∈ (facesTo c g j).2, 0 ≤ x ∧ x < (j : Int) := by
  induction j with
  | zero => simp [facesTo]
  | succ j ih =>
    intro x hx
    simp only [facesTo, List.mem_append, List.mem_singleton] at hx
    rcases hx with hx | hx
    · have := ih x hx; omega
    · have h1 := facesTo_many c g j
      have h2 := place_le (facesTo c g j).1 (face c g j)
      omega
theorem clsTo_range (g : List (List Int)) (h : 1 ≤ g.length) (k : Nat) : ∀ x ∈ (clsTo g k).1, 0 ≤ x ∧ x < (g.length : Int) := by
  cases k with
  | zero =>
    intro x hx
    simp only [clsTo, List.mem_replicate] at hx
    omega
  | succ k => exact facesTo_range _ _ _
theorem face_dom {c : List Int} {h : Int} {row : List Int} {e N : Nat} (hc : ∀ x ∈ c, 0 ≤ x ∧ x < (N : Int)) (hN : N ≤ 5000) (hh : 0 ≤ h ∧ h < (N : Int)) (hrow : ∀ r ∈ row, r < (c.length : Int)) (he : e ≤ row.length) (hr : row.length ≤ 16) : (faceTo c h row e).length = 17 ∧ ∀ x ∈ faceTo c h row e, (Lit.int .i64 x).wf = true := by
  refine ⟨faceTo_len he hr, fun x hx => ?_⟩
  have hb : -1 ≤ x ∧ x < 5000 := by
    simp only [faceTo, List.mem_append, List.mem_cons, List.mem_map, List.mem_replicate] at hx
    rcases hx with (rfl | ⟨r, hr1, rfl⟩) | ⟨_, rfl⟩
    · omega
    · unfold faceV
      split
      · omega
      · have h1 := hrow r (List.mem_of_mem_take hr1)
        have h2 : r.toNat < c.length := by omega
        have h3 := hc (rd c r) (by simp [rd, List.getD_eq_getElem?_getD, List.getElem?_eq_getElem h2])
        omega
    · omega
  simp [Lit.wf, IntKind.min, IntKind.max, IntKind.signed, IntKind.bits]; omega
def dom17 (xs : List Int) : Prop := xs.length = 17 ∧ ∀ x ∈ xs, (Lit.int .i64 x).wf = true
theorem keyFace : KeyB Tryd.prog 63 (encA .i64) dom17 := keyArr (P := Tryd.prog) (e := 3) (n := 17) (by kernel_rfl) (of_decide_eq_true (by kernel_rfl)) (by kernel_rfl) (by kernel_rfl) Tryd.underlying63 Tryd.underlying3 (by kernel_rfl) (by kernel_rfl) (of_decide_eq_true (by kernel_rfl))
theorem grown_setCell (W : World) (p : Addr) (u : Value) : W.grownBy (W.setCell p u) (some p.block) :=
  ⟨rfl, rfl, rfl, by simp [World.setCell], fun i _ hne => Below.heap_setCell W p u i (fun e => hne (by rw [e]))⟩
structure LS (w W : World) (gb cb MB : Nat) (gv cv nv : Value) (Sc Sn : Nat → Prop) (c next : List Int) (F : List (List Int)) : Prop where
  hb : Below w.heap.size w W
  hg : W.heap[gb]? = some (.cells #[gv] 45 (0, 0))
  hc : W.heap[cb]? = some (.cells #[cv] 25 (0, 0))
  hC : Kd.R (Kd.int .i64) 3 W w.heap.size Sc cv c
  hN : Kd.R (Kd.int .i64) 3 W w.heap.size Sn nv next
  hM : MapIs W MB (encA .i64) encN dom17 F.zipIdx
  hd : Disj Sc Sn
section
variable {w W W1 : World} {gb cb MB fb : Nat} {gv cv nv : Value} {Sc Sn : Nat → Prop} {c next : List Int} {F : List (List Int)} {cells : Array Value} {T : TypeId}
theorem LS.below (h : LS w W gb cb MB gv cv nv Sc Sn c next F) (hb : Below W.heap.size W W1) : LS w W1 gb cb MB gv cv nv Sc Sn c next F :=
  ⟨below_then h.hb h.hb.size hb, blk_below h.hg hb, blk_below h.hc hb, Kd.R_below h.hC hb, Kd.R_below h.hN hb, MapIs.below h.hM hb, h.hd⟩
theorem R_offrow {α : Type} {d : Kd α} {e base : Nat} {S : Nat → Prop} {v : Value} {xs : List α} (h : d.R e W base S v xs) (hr : W.heap[fb]? = some (.cells cells T (0, 0))) (ht : ∀ q, q ∈ e :: d.E → q ≠ T) (hg : W.grownBy W1 (some fb)) : d.R e W1 base S v xs :=
  Kd.R_mono (Kd.R_grown (Kd.R_types h hr ht) hg (fun k hk he => hk.2 (by injection he))) (fun _ hk => hk.1)
theorem LS.far (h : LS w W gb cb MB gv cv nv Sc Sn c next F) (hr : W.heap[fb]? = some (.cells cells 63 (0, 0))) (hfb : w.heap.size ≤ fb) (hg : W.grownBy W1 (some fb)) : LS w W1 gb cb MB gv cv nv Sc Sn c next F :=
  ⟨pw_below_grown h.hb _ h.hb.size hg (fun k hk => by cases hk; exact hfb), blk_grown h.hg hg (fun e => by injection e with e; exact blk_ne h.hg hr (by decide) e), blk_grown h.hc hg (fun e => by injection e with e; exact blk_ne h.hc hr (by decide) e),
   R_offrow h.hC hr (by simp [Kd.int, Kd.scalar]) hg, R_offrow h.hN hr (by simp [Kd.int, Kd.scalar]) hg, h.hM.grown hg (fun e => by injection e with e; exact h.hM.ne_row hr e.symm), h.hd⟩
theorem LS.step {next' : List Int} {nb n cn : Nat} (h : LS w W gb cb MB gv cv (.slice (some ⟨nb, 0, none⟩) n cn) Sc Sn c next F) (hr : Kd.R (Kd.int .i64) 3 W1 w.heap.size Sn (.slice (some ⟨nb, 0, none⟩) n cn) next') (hg : W.grownBy W1 (some nb)) : LS w W1 gb cb MB gv cv (.slice (some ⟨nb, 0, none⟩) n cn) (fun k => Sc k ∧ k < W.heap.size) Sn c next' F := by
  obtain ⟨cells, hty⟩ := Kd.R_typed h.hN nb rfl
  exact ⟨pw_below_grown h.hb _ h.hb.size hg (Kd.R_base h.hN), blk_grown h.hg hg (fun e => by injection e with e; exact blk_ne h.hg hty (by decide) e), blk_grown h.hc hg (fun e => by injection e with e; exact blk_ne h.hc hty (by decide) e),
    R_stay h.hC hg (fun k hk hs => h.hd k hs (h.hN.1 k hk)), hr, h.hM.grown hg (fun e => by injection e with e; exact h.hM.ne_row hty e.symm), fun k ha hb => h.hd k ha.1 hb⟩
theorem LS.map {F' : List (List Int)} (h : LS w W gb cb MB gv cv nv Sc Sn c next F) (hMB : w.heap.size ≤ MB) (hm : MapIs W1 MB (encA .i64) encN dom17 F'.zipIdx) (hg : W.grownBy W1 (some MB)) : LS w W1 gb cb MB gv cv nv (fun k => Sc k ∧ k < W.heap.size) (fun k => Sn k ∧ k < W.heap.size) c next F' := by
  have hmb : ∀ {α : Type} {d : Kd α} {e base : Nat} {S : Nat → Prop} {v : Value} {xs : List α}, d.R e W base S v xs → d.R e W1 base (fun k => S k ∧ k < W.heap.size) v xs := fun hh =>
    Kd.R_mono (Kd.R_step (Kd.R_bound hh) (fun k hk hlt => hg.block k hlt (fun he => by
      cases he
      obtain ⟨_, _, _, q, _, cells, hc⟩ := hk
      exact h.hM.ne_row hc rfl))) (fun k hk => ⟨hk.1, hk.2.2.1⟩)
  exact ⟨pw_below_grown h.hb _ h.hb.size hg (fun k hk => by cases hk; exact hMB), blk_grown h.hg hg (fun e => by injection e with e; exact h.hM.ne_row h.hg e), blk_grown h.hc hg (fun e => by injection e with e; exact h.hM.ne_row h.hc e), hmb h.hC, hmb h.hN, hm, h.hd.less _⟩
end
def leastOf (n : Nat) (g : List (List Int)) (K : List Int) : List (List Int) := (bfsTo n (stepL g K) (rd K 0) g.length).1
def LeastEnd (n : Nat) (g : List (List Int)) (K : List Int) (w : World) (E : Ending) (w' : World) : Prop := ∃ (ov : Value) (So : Nat → Prop), E = .returned ov ∧ Kd.R (Kd.slice 3 (Kd.int .i64)) 25 w' w.heap.size So ov (leastOf n g K) ∧ Below w.heap.size w w'
set_option maxHeartbeats 4000000 in
set_option maxRecDepth 100000 in
theorem least_calls (n : Nat) (g : List (List Int)) (A : Option Addr) (cg : Nat) (k m : Nat) (w : World) (hr : Kd.C (Kd.slice 3 (Kd.int .i64)) w A g.length g) (hn : n ≤ 16) (hg0 : 1 ≤ g.length) (hg1 : g.length ≤ 5000) (hok : graphOk n g)
    (hk : (clsTo g (k + 1)).2 = (clsTo g k).2) (hmin : ∀ j, j < k → (clsTo g (j + 1)).2 ≠ (clsTo g j).2) :
    Calls Tryd.prog 13 #[.int .i64 n, .slice A g.length cg] w (LeastEnd n g (clsTo g (k + 1)).1 w) := by
  have hmm := @run_makeMap Tryd.prog
  have HR := Aside0.mk hr
  have HOK := Aside0.mk hok
  have HK := Aside0.mk hk
  have HMIN := Aside0.mk hmin
  clear hr hok hk hmin
  go_enter Tryd.func13, Tryd.ntmps13
  go_wp2_with ((with_reducible refine gate_dst (N := 22) rfl ?_); refine Kd.R_make (Kd.int .i64) w.heap.size 3 rfl (N := 22) rfl 25 _ _ rfl (g.length : Int) rfl rfl Tryd.underlying25 (.int .i64 0) 8 info3 rfl (by decide) (by omega) 0 (ok := fun _ => True) (okp := fun _ => True) rfl (fun _ hk => hk) trivial (by omega) (by omega) (below_alloc (Below.refl _ _) _) (by simp) ?_; intro v1 w1 hr1 hb1 hg1 hnew1; obtain ⟨b1, hb2, _⟩ := hnew1; obtain ⟨c1, hv1⟩ := R_formB hr1 hb2; rw [List.length_replicate, Int.toNat_natCast] at hv1; subst hv1; rw [Int.toNat_natCast] at hr1; have HC1 := Aside0.mk hr1; have HB1 := Aside0.mk hb1; have HX1 := Aside0.mk (blk_grown (blk_new w (.cells #[.slice A g.length cg] 45)) hg1 (by simp)); clear hr1 hb1 hg1 hb2)
  have HB2 := Aside0.mk (below_alloc HB1.out (.cells #[.slice (some ⟨b1, 0, none⟩) g.length c1] 25))
  have HC2 := Aside0.mk (Kd.R_alloc HC1.out (.cells #[.slice (some ⟨b1, 0, none⟩) g.length c1] 25))
  have HX2 := Aside0.mk (blk_alloc HX1.out (.cells #[.slice (some ⟨b1, 0, none⟩) g.length c1] 25))
  have HY2 := Aside0.mk (blk_new w1 (.cells #[.slice (some ⟨b1, 0, none⟩) g.length c1] 25))
  have HCB := Aside0.mk (HB1.out).size
  clear HB1 HC1 HX1
  generalize w1.heap.size = cb at *
  generalize (w1.alloc (.cells #[.slice (some ⟨b1, 0, none⟩) g.length c1] 25)) = w2 at *
  go_loopg [6] k (fun gg v6 wr => ∃ (j : Nat) (cv : Value) (Sc : Nat → Prop), j ≤ k ∧ k - j ≤ gg ∧ v6 = .int .i64 (clsTo g j).2 ∧ Aside0 (Below w.heap.size w wr) ∧ Aside0 (wr.heap[w.heap.size]? = some (.cells #[.slice A g.length cg] 45 (0, 0))) ∧
    Aside0 (wr.heap[cb]? = some (.cells #[cv] 25 (0, 0))) ∧ Aside0 (Kd.R (Kd.int .i64) 3 wr w.heap.size Sc cv (clsTo g j).1))
  case atStart => exact ⟨0, _, fun _ => True, by omega, by omega, rfl, HB2, HX2, HY2, HC2⟩
  case round =>
    clear HB2 HX2 HY2 HC2
    obtain ⟨j, cv, Sc, hjk, hgg, rfl, HB, HX, HY, HC⟩ := hrel
    obtain ⟨Ac, cc, hcv⟩ := Kd.R_slice HC.out
    have hcl := clsTo_len g j
    rw [hcl] at hcv
    subst hcv
    have HCL := Aside0.mk hcl
    clear hcl
    go_upto_region 4 with (fail)
    have HM := Aside0.mk (mapIs_new (ν := Nat) wr (encA .i64) encN dom17)
    have HBm := Aside0.mk (below_alloc HB.out (.map #[] 0))
    have HXm := Aside0.mk (blk_alloc HX.out (.map #[] 0))
    have HYm := Aside0.mk (blk_alloc HY.out (.map #[] 0))
    have HCm := Aside0.mk (Kd.R_mono (Kd.R_bound (Kd.R_alloc HC.out (.map #[] 0))) (fun k hk => (⟨hk.1, hk.2.2.1⟩ : Sc k ∧ k < (wr.alloc (.map #[] 0)).heap.size)))
    have HMB := Aside0.mk (HB.out).size
    clear HB HX HY HC
    generalize (wr.alloc (.map #[] 0)) = wa at *
    generalize wr.heap.size = MB at *
    have hz0 : wa.cell? ⟨w.heap.size, 0, none⟩ = some (.slice A g.length cg) := (blk_cell HXm.out 0).trans rfl
    go_upto_region 5 with ((with_reducible refine gate_dst (N := 26) rfl ?_); refine Kd.R_make (Kd.int .i64) w.heap.size 3 rfl (N := 26) rfl 25 _ _ rfl (g.length : Int) rfl rfl Tryd.underlying25 (.int .i64 0) 8 info3 rfl (by decide) (by omega) 0 (ok := fun k => wa.heap.size ≤ k) (okp := fun _ => False) rfl (fun _ hk => hk.elim) (Nat.le_refl _) (by omega) (by omega) HBm.out (HBm.out).size ?_; intro v3 w3 hr3 hb3 hg3 hnew3)
    obtain ⟨nb, hnb, _⟩ := hnew3
    obtain ⟨cn, hv3⟩ := R_formB hr3 hnb
    rw [List.length_replicate, Int.toNat_natCast] at hv3
    subst hv3
    rw [Int.toNat_natCast] at hr3
    have HL3 := Aside0.mk (LS.mk (nv := .slice (some ⟨nb, 0, none⟩) g.length cn) (MB := MB) (F := []) hb3 (blk_grown HXm.out hg3 (by simp)) (blk_grown HYm.out hg3 (by simp)) (Kd.R_grown HCm.out hg3 (by simp)) hr3 ((HM.out).grown hg3 (by simp)) (fun k ha hb => by have := ha.2; omega))
    clear hr3 hb3 hg3 hnb HM HBm HXm HYm HCm hz0
    generalize (fun k => Sc k ∧ k < wa.heap.size) = Sc3 at *
    generalize (fun k => wa.heap.size ≤ k) = Sn3 at *
    have hz0 : w3.cell? ⟨w.heap.size, 0, none⟩ = some (.slice A g.length cg) := (blk_cell (HL3.out).hg 0).trans rfl
    go_wp2
    clear hz0
    go_loopg [29] g.length (fun gg2 v29 wi => ∃ (q : Nat) (Sc Sn : Nat → Prop), q ≤ g.length ∧ g.length - q ≤ gg2 ∧ v29 = .int .i64 q ∧ Aside0 (LS w wi w.heap.size cb MB (.slice A g.length cg) (.slice Ac g.length cc) (.slice (some ⟨nb, 0, none⟩) g.length cn) Sc Sn (clsTo g j).1 ((facesTo (clsTo g j).1 g q).2 ++ List.replicate (g.length - q) 0) (facesTo (clsTo g j).1 g q).1))
    case atStart => exact ⟨0, Sc3, Sn3, by omega, by omega, rfl, HL3⟩
    case round =>
      clear HL3
      obtain ⟨q, Sc, Sn, hqg, hg2, rfl, HL⟩ := hrel
      by_cases hlt : q < g.length
      · have hltz : (q : Int) < (g.length : Int) := by omega
        obtain ⟨adg, Ar, cr, e0, hxr0, hlr, hrr⟩ := Q.at_L1 HR.out (q : Int) (by omega) hltz
        cases e0
        rw [Int.toNat_natCast] at hxr0
        have hxr := pw_cell_below (HL.out).hb hxr0
        have hqc : (q : Int) < ((clsTo g j).1.length : Int) := by rw [HCL.out]; omega
        obtain ⟨adc, e0, hxc⟩ := Kd.at_int (Kd.R_reads' (HL.out).hC).2.2 (q : Int) (by omega) (by have := HCL.out; omega)
        cases e0
        rw [Int.toNat_natCast] at hxc
        have hz1 : wr.cell? ⟨cb, 0, none⟩ = some (.slice (some adc) g.length cc) := (blk_cell (HL.out).hc 0).trans rfl
        have HRR := Aside0.mk hrr
        clear hrr hqc
        go_upto_region 9 with (fail)
        have hylen := (HOK.out _ (List.getElem_mem hlt)).1
        have hyr := (HOK.out _ (List.getElem_mem hlt)).2
        rw [← Q_rdL_at hlt] at hylen hyr
        have HYR := Aside0.mk hyr
        have HCR := Aside0.mk (clsTo_range g hg0 j _ (rd_mem (k := q) (by have := HCL.out; omega)))
        have HFC := Aside0.mk (show face (clsTo g j).1 g q = faceTo (clsTo g j).1 (rd (clsTo g j).1 q) (Q.rd_L1 g q) (Q.rd_L1 g q).length from rfl)
        have HF4 := Aside0.mk (show (wr.alloc (.cells (cellsOfL (faceTo (clsTo g j).1 (rd (clsTo g j).1 q) (Q.rd_L1 g q) 0)) 63)).heap[wr.heap.size]? = some (.cells (cellsOfL (faceTo (clsTo g j).1 (rd (clsTo g j).1 q) (Q.rd_L1 g q) 0)) 63 (0, 0)) from blk_new _ _)
        have HL4 := Aside0.mk ((HL.out).below (below_alloc (Below.refl wr.heap.size wr) (.cells (cellsOfL (faceTo (clsTo g j).1 (rd (clsTo g j).1 q) (Q.rd_L1 g q) 0)) 63)))
        have HFB := Aside0.mk ((HL.out).hb).size
        clear hyr hxr hxr0 hxc hz1
        generalize Q.rd_L1 g (q : Int) = y at *
        generalize rd (clsTo g j).1 (q : Int) = h at *
        have hworld : (wr.alloc (.cells (cellsOfL (faceTo (clsTo g j).1 h y 0)) 63)) = (wr.alloc (.cells #[.int .i64 h, .int .i64 0, .int .i64 0, .int .i64 0, .int .i64 0, .int .i64 0, .int .i64 0, .int .i64 0, .int .i64 0, .int .i64 0, .int .i64 0, .int .i64 0, .int .i64 0, .int .i64 0, .int .i64 0, .int .i64 0, .int .i64 0] 63)) := rfl
        rw [hworld] at HF4 HL4
        clear hworld
        generalize (wr.alloc (.cells #[.int .i64 h, .int .i64 0, .int .i64 0, .int .i64 0, .int .i64 0, .int .i64 0, .int .i64 0, .int .i64 0, .int .i64 0, .int .i64 0, .int .i64 0, .int .i64 0, .int .i64 0, .int .i64 0, .int .i64 0, .int .i64 0, .int .i64 0] 63)) = w4 at *
        generalize wr.heap.size = fb at *
        have HYL := Aside0.mk hylen
        have hy16 : y.length ≤ 16 := by omega
        clear hylen
        go_wp2
        go_loopg [41] y.length (fun gg3 v41 wi => ∃ e : Nat, e ≤ y.length ∧ y.length - e ≤ gg3 ∧ v41 = .int .i64 e ∧ Aside0 (LS w wi w.heap.size cb MB (.slice (some adg) g.length cg) (.slice (some adc) g.length cc) (.slice (some ⟨nb, 0, none⟩) g.length cn) Sc Sn (clsTo g j).1 ((facesTo (clsTo g j).1 g q).2 ++ List.replicate (g.length - q) 0) (facesTo (clsTo g j).1 g q).1) ∧
          Aside0 (wi.heap[fb]? = some (.cells (cellsOfL (faceTo (clsTo g j).1 h y e)) 63 (0, 0))))
        case atStart => exact ⟨0, by omega, by omega, rfl, HL4, HF4⟩
        case round =>
          clear HL4 HF4
          obtain ⟨e, hey, hg3, rfl, HL4, HF4⟩ := hrel
          by_cases hle : e < y.length
          · have hlez : (e : Int) < (y.length : Int) := by omega
            obtain ⟨adr, e0, hxe⟩ := Kd.at_int (Kd.C_below HRR.out (HL4.out).hb) (e : Int) (by omega) hlez
            cases e0
            rw [Int.toNat_natCast] at hxe
            have hfl := faceTo_len (c := (clsTo g j).1) (h := h) hey hy16
            have hcell : wr.cell? ⟨fb, e + 1, none⟩ = some (.int .i64 ((faceTo (clsTo g j).1 h y e)[e + 1]'(by omega))) := (blk_cell HF4.out (e + 1)).trans (cells_at (by omega))
            have hfz : wr.frozen? ⟨fb, e + 1, none⟩ = false := blk_frozen HF4.out (e + 1)
            have he17 : (e : Int) + 1 < 17 := by omega
            go_upto_region 13 with (fail)
            have HF5 := Aside0.mk (show (wr.setCell ⟨fb, e + 1, none⟩ (.int .i64 (-1))).heap[fb]? = some (.cells (cellsOfL (faceW (clsTo g j).1 h y e (-1))) 63 (0, 0)) from by
              rw [← faceTo_set hle hy16, ← cells_set]
              exact blk_set HF4.out (e + 1) (.int .i64 (-1)))
            have HL5 := Aside0.mk ((HL4.out).far HF4.out HFB.out (grown_setCell wr ⟨fb, e + 1, none⟩ (.int .i64 (-1))))
            have HYE := Aside0.mk (HYR.out _ (rd_mem hle))
            have HFS := Aside0.mk (faceTo_succ (c := (clsTo g j).1) (h := h) hle)
            clear HF4 HL4 hcell hfz hfl hxe
            generalize (wr.setCell ⟨fb, e + 1, none⟩ (.int .i64 (-1))) = w5 at *
            generalize rd y (e : Int) = r at *
            by_cases hneg : r < 0
            · have hge : decide (r ≥ 0) = false := by simpa using hneg
              have HFV := Aside0.mk (show faceV (clsTo g j).1 r = -1 from if_pos hneg)
              clear hneg
              go_wp2
              go_roundg (y.length - (e + 1))
              case measure => omega
              case rel =>
                refine ⟨e + 1, by omega, by omega, by go_num, HL5, ?_⟩
                rw [HFS.out, HFV.out]
                exact HF5
            · have hge : decide (r ≥ 0) = true := by simpa using hneg
              have HFV := Aside0.mk (show faceV (clsTo g j).1 r = rd (clsTo g j).1 r from if_neg hneg)
              obtain ⟨hr0, hr1⟩ : 0 ≤ r ∧ r < (g.length : Int) := by have := HYE.out; omega
              clear hneg
              obtain ⟨adq, e0, hxq⟩ := Kd.at_int (Kd.R_reads' (HL5.out).hC).2.2 r hr0 (by have := HCL.out; omega)
              cases e0
              have hwl : e + 1 < (faceW (clsTo g j).1 h y e (-1)).length := by
                rw [← faceTo_set hle hy16, List.length_set, faceTo_len hey hy16]; omega
              have hcell : w5.cell? ⟨fb, e + 1, none⟩ = some (.int .i64 ((faceW (clsTo g j).1 h y e (-1))[e + 1]'hwl)) := (blk_cell HF5.out (e + 1)).trans (cells_at hwl)
              have hfz : w5.frozen? ⟨fb, e + 1, none⟩ = false := blk_frozen HF5.out (e + 1)
              have hz1 : w5.cell? ⟨cb, 0, none⟩ = some (.slice (some adc) g.length cc) := (blk_cell (HL5.out).hc 0).trans rfl
              have HF6 := Aside0.mk (show (w5.setCell ⟨fb, e + 1, none⟩ (.int .i64 (rd (clsTo g j).1 r))).heap[fb]? = some (.cells (cellsOfL (faceW (clsTo g j).1 h y e (rd (clsTo g j).1 r))) 63 (0, 0)) from by
                rw [← faceW_set hle (-1), ← cells_set]
                exact blk_set HF5.out (e + 1) (.int .i64 (rd (clsTo g j).1 r)))
              have HL6 := Aside0.mk ((HL5.out).far HF5.out HFB.out (grown_setCell w5 ⟨fb, e + 1, none⟩ (.int .i64 (rd (clsTo g j).1 r))))
              go_wp2
              go_roundg (y.length - (e + 1))
              case measure => omega
              case rel =>
                refine ⟨e + 1, by omega, by omega, by go_num, HL6, ?_⟩
                rw [HFS.out, HFV.out]
                exact HF6
          · have hlez : ¬ (e : Int) < (y.length : Int) := by omega
            obtain rfl : e = y.length := by omega
            have HFD := Aside0.mk (face_dom (e := y.length) (clsTo_range g hg0 j) (by omega) (HCR.out) (fun r hr => by have := HYR.out r hr; rw [HCL.out]; exact this.2) (Nat.le_refl _) hy16)
            have hfsz : (cellsOfL (faceTo (clsTo g j).1 h y y.length)).size = 17 := by
              rw [cellsOfL, List.size_toArray, List.length_map]; exact (HFD.out).1
            have HFS := Aside0.mk hfsz
            have HFT := Aside0.mk (show facesTo (clsTo g j).1 g (q + 1) = (ins (facesTo (clsTo g j).1 g q).1 (face (clsTo g j).1 g q), (facesTo (clsTo g j).1 g q).2 ++ [(place (face (clsTo g j).1 g q) (facesTo (clsTo g j).1 g q).1 : Int)]) from rfl)
            have HNL := Aside0.mk (facesTo_len (clsTo g j).1 g q)
            rw [HFC.out] at HFT
            clear hfsz HFC
            generalize faceTo (clsTo g j).1 h y y.length = f at *
            have HLK := Aside0.mk (MapIs.look (HL4.out).hM keyFace Tryd.underlying62 (zero3 wr) HFD.out true)
            rw [mget_place] at HLK
            by_cases hmem : f ∈ (facesTo (clsTo g j).1 g q).1
            · have hl : (Instr.lookup 62 (.map (some MB)) (.agg (cellsOfL f)) true).run Tryd.prog wr = .ok (.tuple #[.int .i64 ((place f (facesTo (clsTo g j).1 g q).1 : Nat) : Int), .bool true]) wr := by
                have h1 := HLK.out
                rw [if_pos hmem, show encA .i64 f = .agg (cellsOfL f) from rfl] at h1
                simp only [if_true, encN] at h1
                exact h1
              rw [ins, if_pos hmem] at HFT
              clear HLK hmem
              generalize place f (facesTo (clsTo g j).1 g q).1 = kk at *
              obtain ⟨hc1, hf1⟩ := Kd.R_celln 0 (HL4.out).hN (q : Int) (by omega) (by omega)
              rw [Int.toNat_natCast] at hc1 hf1
              go_wp2_with ((with_reducible refine gate_dst (N := 61) rfl ?_); refine wpList_load_row rfl 63 (.tmp 11) rfl fb rfl 63 (cellsOfL f) (0, 0) (.array 17 3) HF4.out Tryd.underlying63 rfl (by rw [HFS.out]; kernel_rfl) ?_)
              have HPUT := Kd.R_putg (HL4.out).hN (q : Int) (kk : Int)
              rw [Int.toNat_natCast, set_next HNL.out hlt] at HPUT
              go_roundg (g.length - (q + 1))
              case measure => omega
              case rel =>
                refine ⟨q + 1, fun k => Sc k ∧ k < wr.heap.size, Sn, by omega, by omega, by go_num, ⟨?_⟩⟩
                rw [HFT.out]
                exact LS.step (HL4.out) HPUT.1 HPUT.2
            · have hl : (Instr.lookup 62 (.map (some MB)) (.agg (cellsOfL f)) true).run Tryd.prog wr = .ok (.tuple #[.int .i64 0, .bool false]) wr := by
                have h1 := HLK.out
                rw [if_neg hmem, show encA .i64 f = .agg (cellsOfL f) from rfl] at h1
                simp only [if_true] at h1
                exact h1
              have hlenm := MapIs.len (HL4.out).hM Tryd.underlying62 3
              rw [List.length_zipIdx] at hlenm
              obtain ⟨w5, hput, HM5, hg5⟩ := MapIs.put (HL4.out).hM keyFace Tryd.underlying62 HFD.out (facesTo (clsTo g j).1 g q).1.length
              rw [mput_zip hmem] at HM5
              have hput' : (Instr.mapUpdate 62 (.map (some MB)) (.agg (cellsOfL f)) (.int .i64 ((facesTo (clsTo g j).1 g q).1.length : Int))).run Tryd.prog wr = .ok () w5 := hput
              have HL5 := Aside0.mk ((HL4.out).map HMB.out HM5 hg5)
              rw [ins, if_neg hmem, place_new hmem] at HFT
              clear HLK hmem hput HM5 hg5
              generalize (facesTo (clsTo g j).1 g q).1 = F at *
              obtain ⟨hc1, hf1⟩ := Kd.R_celln 0 (HL5.out).hN (q : Int) (by omega) (by omega)
              rw [Int.toNat_natCast] at hc1 hf1
              go_wp2_with (first
                | ((with_reducible refine gate_dst (N := 61) rfl ?_); refine wpList_load_row rfl 63 (.tmp 11) rfl fb rfl 63 (cellsOfL f) (0, 0) (.array 17 3) HF4.out Tryd.underlying63 rfl (by rw [HFS.out]; kernel_rfl) ?_)
                | ((with_reducible refine gate_dst (N := 70) rfl ?_); refine wpList_load_row rfl 63 (.tmp 11) rfl fb rfl 63 (cellsOfL f) (0, 0) (.array 17 3) HF4.out Tryd.underlying63 rfl (by rw [HFS.out]; kernel_rfl) ?_))
              have HPUT := Kd.R_putg (HL5.out).hN (q : Int) (F.length : Int)
              rw [Int.toNat_natCast, set_next HNL.out hlt] at HPUT
              go_roundg (g.length - (q + 1))
              case measure => omega
              case rel =>
                refine ⟨q + 1, fun k => (Sc k ∧ k < wr.heap.size) ∧ k < w5.heap.size, fun k => Sn k ∧ k < wr.heap.size, by omega, by omega, by go_num, ⟨?_⟩⟩
                rw [HFT.out]
                exact LS.step (HL5.out) HPUT.1 HPUT.2
      · have hltz : ¬ (q : Int) < (g.length : Int) := by omega
        obtain rfl : q = g.length := by omega
        rw [Nat.sub_self, List.replicate_zero, List.append_nil] at HL
        have hcc : wr.cell? ⟨cb, 0, none⟩ = some (.slice Ac g.length cc) := (blk_cell (HL.out).hc 0).trans rfl
        have hcf : wr.frozen? ⟨cb, 0, none⟩ = false := blk_frozen (HL.out).hc 0
        go_upto_region 23 with (fail)
        have hg6 := grown_setCell wr ⟨cb, 0, none⟩ (.slice (some ⟨nb, 0, none⟩) g.length cn)
        have HB6 := Aside0.mk (pw_below_grown (HL.out).hb _ ((HL.out).hb).size hg6 (fun k hk => by cases hk; exact HCB.out))
        have HX6 := Aside0.mk (blk_grown (HL.out).hg hg6 (fun e => by injection e with e; exact blk_ne (HL.out).hg (HL.out).hc (by decide) e))
        have HY6 := Aside0.mk (show (wr.setCell ⟨cb, 0, none⟩ (.slice (some ⟨nb, 0, none⟩) g.length cn)).heap[cb]? = some (.cells #[.slice (some ⟨nb, 0, none⟩) g.length cn] 25 (0, 0)) from blk_set (HL.out).hc 0 (.slice (some ⟨nb, 0, none⟩) g.length cn))
        have HC6 := Aside0.mk (R_offrow (HL.out).hN (HL.out).hc (by simp [Kd.int, Kd.scalar]) hg6)
        have HM6 := Aside0.mk ((HL.out).hM.grown hg6 (fun e => by injection e with e; exact (HL.out).hM.ne_row (HL.out).hc e.symm))
        have HCLS := Aside0.mk (show clsTo g (j + 1) = ((facesTo (clsTo g j).1 g g.length).2, (facesTo (clsTo g j).1 g g.length).1.length) from rfl)
        clear HL hcc hcf hg6
        generalize (wr.setCell ⟨cb, 0, none⟩ (.slice (some ⟨nb, 0, none⟩) g.length cn)) = w6 at *
        have hlenm := MapIs.len HM6.out Tryd.underlying62 3
        rw [List.length_zipIdx] at hlenm
        have hcnt : (clsTo g (j + 1)).2 = (facesTo (clsTo g j).1 g g.length).1.length := by rw [HCLS.out]
        have HCN := Aside0.mk hcnt
        have HC7 := Aside0.mk (show Kd.R (Kd.int .i64) 3 w6 w.heap.size Sn (.slice (some ⟨nb, 0, none⟩) g.length cn) (clsTo g (j + 1)).1 from by rw [HCLS.out]; exact HC6.out)
        clear hcnt HC6
        rw [← HCN.out] at hlenm
        by_cases hstop : (clsTo g (j + 1)).2 = (clsTo g j).2
        · have hst : (((clsTo g (j + 1)).2 : Int) == ((clsTo g j).2 : Int)) = true := beq_iff_eq.2 (by rw [hstop])
          have hst2 : ((clsTo g (j + 1)).2 == (clsTo g j).2) = true := beq_iff_eq.2 hstop
          obtain rfl : j = k := by
            rcases Nat.lt_or_ge j k with h | h
            · exact absurd hstop (HMIN.out j h)
            · omega
          clear hstop
          have hz0 : w6.cell? ⟨w.heap.size, 0, none⟩ = some (.slice A g.length cg) := (blk_cell HX6.out 0).trans rfl
          go_upto_region 26 with (fail)
          clear hz0
          have HB8 := Aside0.mk (below_alloc (below_alloc HB6.out (.map #[] 0)) (.cells #[.map (some w6.heap.size)] 65))
          have HX8 := Aside0.mk (blk_alloc (blk_alloc HX6.out (.map #[] 0)) (.cells #[.map (some w6.heap.size)] 65))
          have HY8 := Aside0.mk (blk_alloc (blk_alloc HY6.out (.map #[] 0)) (.cells #[.map (some w6.heap.size)] 65))
          have HC8 := Aside0.mk (Kd.R_alloc (Kd.R_alloc HC7.out (.map #[] 0)) (.cells #[.map (some w6.heap.size)] 65))
          have HM8 := Aside0.mk (MapIs.below (mapIs_new (ν := Nat) w6 (Value.int .i64) encN wf64) (below_alloc (Below.refl _ _) (.cells #[.map (some w6.heap.size)] 65)))
          have HF8 := Aside0.mk (blk_at2 w6 (.map #[] 0) (.cells #[.map (some w6.heap.size)] 65))
          have HMB2 := Aside0.mk (HB6.out).size
          have HKR := Aside0.mk (clsTo_range g hg0 (j + 1))
          have HKL := Aside0.mk (clsTo_len g (j + 1))
          clear HB6 HX6 HY6 HC7 HM6
          generalize ((w6.alloc (.map #[] 0)).alloc (.cells #[.map (some w6.heap.size)] 65)) = w8 at *
          generalize w6.heap.size = MB2 at *
          generalize (clsTo g (j + 1)).1 = K at *
          have hz0 : w8.cell? ⟨w.heap.size, 0, none⟩ = some (.slice A g.length cg) := (blk_cell HX8.out 0).trans rfl
          go_wp2
          clear hz0
          go_loopg [17] g.length (fun gg v17 wi => ∃ (d : Nat) (t : Int) (S : Nat → Prop), d ≤ g.length ∧ g.length - d ≤ gg ∧ v17 = .int .i64 t ∧ -1 ≤ t ∧ t < (g.length : Int) ∧ Aside0 (t = (g.length : Int) - 1 - d) ∧ Aside0 (Below w.heap.size w wi) ∧ Aside0 (wi.heap[w.heap.size]? = some (.cells #[.slice A g.length cg] 45 (0, 0))) ∧
            Aside0 (wi.heap[cb]? = some (.cells #[.slice (some ⟨nb, 0, none⟩) g.length cn] 25 (0, 0))) ∧ Aside0 (wi.heap[MB2 + 1]? = some (.cells #[.map (some MB2)] 65 (0, 0))) ∧ Aside0 (Kd.R (Kd.int .i64) 3 wi w.heap.size S (.slice (some ⟨nb, 0, none⟩) g.length cn) K) ∧ Aside0 (MapIs wi MB2 (Value.int .i64) encN wf64 (firstTo K d)))
          case atStart => exact ⟨0, (g.length : Int) - 1, Sn, by omega, by omega, rfl, by omega, by omega, ⟨by omega⟩, HB8, HX8, HY8, HF8, HC8, HM8⟩
          case round =>
            clear HB8 HX8 HY8 HF8 HC8 HM8
            obtain ⟨d, t, S, hdg, hgd, rfl, ht0, ht1, HT, HB, HX, HY, HF, HC, HM⟩ := hrel
            by_cases htn : 0 ≤ t
            · have htd : decide (t ≥ 0) = true := by simpa using htn
              obtain ⟨p, rfl⟩ : ∃ p : Nat, t = (p : Int) := ⟨t.toNat, by omega⟩
              have hpd : p = g.length - 1 - d := by have := HT.out; omega
              have hdlt : d < g.length := by have := HT.out; omega
              have HPD := Aside0.mk hpd
              clear hpd
              obtain ⟨adp, e0, hxp⟩ := Kd.at_int (Kd.R_reads' HC.out).2.2 (p : Int) (by omega) (by have := HKL.out; omega)
              cases e0
              rw [Int.toNat_natCast, add_plain] at hxp
              have hpk := HKR.out (rd K (p : Int)) (rd_mem (by have := HKL.out; omega))
              obtain ⟨w9, hput, HM9, hg9⟩ := MapIs.put (w := wr.drew) ((HM.out).kept rfl) keyInt Tryd.underlying65 (x := rd K (p : Int)) (wf_small hpk.1 (by omega)) p
              have hput' : (Instr.mapUpdate 65 (.map (some MB2)) (.int .i64 (rd K (p : Int))) (.int .i64 (p : Int))).run Tryd.prog wr.drew = .ok () w9 := hput
              clear hput
              have hz1 : wr.cell? ⟨cb, 0, none⟩ = some (.slice (some ⟨nb, 0, none⟩) g.length cn) := (blk_cell HY.out 0).trans rfl
              have hz2 : wr.cell? ⟨MB2 + 1, 0, none⟩ = some (.map (some MB2)) := (blk_cell HF.out 0).trans rfl
              go_wp2
              go_region
              have hmb : ∀ {α : Type} {d : Kd α} {e base : Nat} {S : Nat → Prop} {v : Value} {xs : List α}, d.R e wr base S v xs → d.R e w9 base (fun k => S k ∧ k < wr.heap.size) v xs := fun hh =>
                Kd.R_mono (Kd.R_step (Kd.R_bound hh) (fun k hk hlt => hg9.block k hlt (fun he => by
                  cases he
                  obtain ⟨_, _, _, q, _, cells, hc⟩ := hk
                  exact (HM.out).ne_row hc rfl))) (fun k hk => ⟨hk.1, hk.2.2.1⟩)
              have HB9 := Aside0.mk (pw_below_grown (below_drew HB.out) _ (HB.out).size hg9 (fun k hk => by cases hk; exact HMB2.out))
              have HX9 := Aside0.mk (blk_grown (w := wr.drew) HX.out hg9 (fun e => by injection e with e; exact (HM.out).ne_row HX.out e))
              have HY9 := Aside0.mk (blk_grown (w := wr.drew) HY.out hg9 (fun e => by injection e with e; exact (HM.out).ne_row HY.out e))
              have HF9 := Aside0.mk (blk_grown (w := wr.drew) HF.out hg9 (fun e => by injection e with e; exact (HM.out).ne_row HF.out e))
              have HC9 := Aside0.mk (hmb HC.out)
              have HM9' := Aside0.mk HM9
              have HFT := Aside0.mk (show firstTo K (d + 1) = mput (rd K (p : Int)) p (firstTo K d) from by rw [HPD.out, ← HKL.out]; rfl)
              clear HM9 hmb hg9 hput' HB HX HY HF HC HM hz1 hz2 hxp
              go_wp2
              go_roundg (g.length - (d + 1))
              case measure => omega
              case rel =>
                refine ⟨d + 1, (p : Int) - 1, _, by omega, by omega, rfl, by omega, by omega, ⟨by have := HT.out; omega⟩, HB9, HX9, HY9, HF9, HC9, ?_⟩
                rw [HFT.out]
                exact HM9'
            · have htd : decide (t ≥ 0) = false := by simpa using htn
              have hdd : d = g.length := by have := HT.out; omega
              have HDD := Aside0.mk hdd
              clear hdd
              rw [HDD.out, ← HKL.out] at HM
              have hmf := run_mkfun
              have hst0 := HKR.out (rd K ((0 : Nat) : Int)) (rd_mem (by have := HKL.out; omega))
              obtain ⟨ad0, e0, hx0⟩ := Kd.at_int (Kd.R_reads' HC.out).2.2 0 (by omega) (by have := HKL.out; omega)
              cases e0
              rw [show (0 : Int).toNat = 0 from rfl, add_plain] at hx0
              have hz1 : wr.cell? ⟨cb, 0, none⟩ = some (.slice (some ⟨nb, 0, none⟩) g.length cn) := (blk_cell HY.out 0).trans rfl
              have HKC := Aside0.mk (Kd.R_reads' HC.out)
              have hwfK : ∀ x ∈ K, wf64 x := fun x hx => wf_small (HKR.out x hx).1 (by have := (HKR.out x hx).2; omega)
              have HEX := Aside0.mk (explored_calls n (rd K 0) 25 #[.pointer (some ⟨w.heap.size, 0, none⟩), .pointer (some ⟨MB2 + 1, 0, none⟩), .pointer (some ⟨cb, 0, none⟩)] (fun x => x ∈ K) (stepL g K) g.length wr hn (by omega)
                (bfs_size' (D := fun x => x ∈ K) (fun x hx => HKR.out x hx) (fun x e hx he h => stepL_dom HOK.out HKL.out x e hx he h) (rd_mem (k := 0) (by have := HKL.out; omega)) _)
                (fun W x e hW hx he => least1_calls n g K A (some ⟨nb, 0, none⟩) cg cn w.heap.size (MB2 + 1) cb MB2 x e W (blk_below HX.out hW) (blk_below HF.out hW) (by rw [HKL.out]; exact blk_below HY.out hW) (MapIs.below HM.out hW) (Kd.C_below HR.out (below_then HB.out (HB.out).size hW)) (Kd.C_below (HKC.out).2.2 hW) HOK.out HKL.out hwfK hx he)
                (rd_mem (k := 0) (by have := HKL.out; omega)) (fun x e hx he h => stepL_dom HOK.out HKL.out x e hx he h) hwfK (fun _ _ => rfl))
              have HB7 := Aside0.mk (HB.out).size
              clear HX HY HF HC HM hwfK hst0
              go_wp2_with fail
              refine HEX.out.mono ?_
              rintro E w2 ⟨ov, qv, So, Sq, rfl, _, ho, _, hb⟩
              have HO := Aside0.mk ho
              have HB2 := Aside0.mk (below_then HB.out HB7.out hb)
              clear ho hb HEX
              go_wp2
              go_ret
              exact ⟨_, So, rfl, Kd.R_lower HO.out HB7.out, HB2.out⟩
        · have hst : (((clsTo g (j + 1)).2 : Int) == ((clsTo g j).2 : Int)) = false := beq_eq_false_iff_ne.2 (by omega)
          have hst2 : ((clsTo g (j + 1)).2 == (clsTo g j).2) = false := beq_eq_false_iff_ne.2 hstop
          have hjk2 : j + 1 ≤ k := by
            rcases Nat.lt_or_ge j k with h | h
            · omega
            · obtain rfl : j = k := by omega
              exact absurd HK.out hstop
          clear hstop
          go_wp2
          go_roundg (k - (j + 1))
          case measure => omega
          case rel => exact ⟨j + 1, .slice (some ⟨nb, 0, none⟩) g.length cn, Sn, hjk2, by omega, rfl, HB6, HX6, HY6, HC7⟩
end Go.Proofs.YtmphigeefppfpaaDoor.H
namespace Go.Proofs.YtmphigeefppfpaaDoorW.PrintWords
set_option linter.unusedVariables false
section
variable {α β γ : Type}
def acc (step : α → Nat → α × Bool) : α → List Nat → Bool
  | _, [] => true
  | x, e :: w => (step x e).2 && acc step (step x e).1 w
def Wd (n : Nat) (w : List Nat) : Prop := ∀ e ∈ w, e < n
def Ek (n : Nat) (s1 : α → Nat → α × Bool) (s2 : β → Nat → β × Bool) (k : Nat) (x : α) (y : β) : Prop := ∀ w, w.length ≤ k → Wd n w → acc s1 x w = acc s2 y w
def Lq (n : Nat) (s1 : α → Nat → α × Bool) (s2 : β → Nat → β × Bool) (x : α) (y : β) : Prop := ∀ w, Wd n w → acc s1 x w = acc s2 y w
variable {n : Nat} {s1 : α → Nat → α × Bool} {s2 : β → Nat → β × Bool} {s3 : γ → Nat → γ × Bool} {x : α} {y : β} {z : γ} {k : Nat}
theorem Wd.cons {e : Nat} {w : List Nat} (he : e < n) (hw : Wd n w) : Wd n (e :: w) := fun a ha => by
  rcases List.mem_cons.1 ha with rfl | ha
  · exact he
  · exact hw a ha
theorem Wd.head {e : Nat} {w : List Nat} (h : Wd n (e :: w)) : e < n := h e List.mem_cons_self
theorem Wd.tail {e : Nat} {w : List Nat} (h : Wd n (e :: w)) : Wd n w := fun a ha => h a (List.mem_cons_of_mem _ ha)
theorem Ek.zero : Ek n s1 s2 0 x y := fun w hw _ => by
  rw [List.eq_nil_of_length_eq_zero (Nat.le_zero.1 hw)]; rfl
theorem Ek.ok (h : Ek n s1 s2 (k + 1) x y) {e : Nat} (he : e < n) : (s1 x e).2 = (s2 y e).2 := by
  have := h [e] (by simp) (Wd.cons he (fun a ha => by simp at ha))
  simpa [acc] using this
theorem Ek.next (h : Ek n s1 s2 (k + 1) x y) {e : Nat} (he : e < n) (ho : (s1 x e).2 = true) : Ek n s1 s2 k (s1 x e).1 (s2 y e).1 := fun w hw hd => by
  have h2 := h (e :: w) (by simp; omega) (Wd.cons he hd)
  have h3 := h.ok he
  simp only [acc, ho, ← h3, Bool.true_and] at h2
  exact h2
theorem Ek.mk' (h : ∀ e, e < n → (s1 x e).2 = (s2 y e).2 ∧ ((s1 x e).2 = true → Ek n s1 s2 k (s1 x e).1 (s2 y e).1)) : Ek n s1 s2 (k + 1) x y := fun w hw hd => by
  cases w with
  | nil => rfl
  | cons e w =>
    obtain ⟨h1, h2⟩ := h e hd.head
    simp only [acc]
    rw [← h1]
    cases ho : (s1 x e).2 with
    | false => simp
    | true => simp only [Bool.true_and]; exact h2 ho w (by simpa using hw) hd.tail
theorem Ek.less {j : Nat} (h : Ek n s1 s2 k x y) (hj : j ≤ k) : Ek n s1 s2 j x y := fun w hw hd => h w (by omega) hd
theorem Ek.symm (h : Ek n s1 s2 k x y) : Ek n s2 s1 k y x := fun w hw hd => (h w hw hd).symm
theorem Ek.trans (h : Ek n s1 s2 k x y) (h2 : Ek n s2 s3 k y z) : Ek n s1 s3 k x z := fun w hw hd => (h w hw hd).trans (h2 w hw hd)
theorem Lq.ek (h : Lq n s1 s2 x y) (k : Nat) : Ek n s1 s2 k x y := fun w _ hd => h w hd
theorem Lq.of (h : ∀ k, Ek n s1 s2 k x y) : Lq n s1 s2 x y := fun w hd => h w.length w (Nat.le_refl _) hd
theorem Lq.refl (x : α) : Lq n s1 s1 x x := fun _ _ => rfl
theorem Lq.symm (h : Lq n s1 s2 x y) : Lq n s2 s1 y x := fun w hd => (h w hd).symm
theorem Lq.trans (h : Lq n s1 s2 x y) (h2 : Lq n s2 s3 y z) : Lq n s1 s3 x z := fun w hd => (h w hd).trans (h2 w hd)
theorem Lq.ok (h : Lq n s1 s2 x y) {e : Nat} (he : e < n) : (s1 x e).2 = (s2 y e).2 := (h.ek 1).ok he
theorem Lq.next (h : Lq n s1 s2 x y) {e : Nat} (he : e < n) (ho : (s1 x e).2 = true) : Lq n s1 s2 (s1 x e).1 (s2 y e).1 := Lq.of fun k => (h.ek (k + 1)).next he ho
theorem Lq.of_rel (R : α → β → Prop) (hR : ∀ x y e, R x y → e < n → (s1 x e).2 = (s2 y e).2 ∧ ((s1 x e).2 = true → R (s1 x e).1 (s2 y e).1)) (h : R x y) : Lq n s1 s2 x y := by
  intro w
  induction w generalizing x y with
  | nil => intro _; rfl
  | cons e w ih =>
    intro hd
    obtain ⟨h1, h2⟩ := hR x y e h hd.head
    simp only [acc]
    rw [← h1]
    cases ho : (s1 x e).2 with
    | false => simp
    | true => simp only [Bool.true_and]; exact ih (h2 ho) hd.tail
structure Refines (n : Nat) (s : α → Nat → α × Bool) (D : α → Prop) (c : Nat → α → Int) : Prop where
  zero : ∀ x y, D x → D y → c 0 x = c 0 y
  succ : ∀ k x y, D x → D y → (c (k + 1) x = c (k + 1) y ↔ c k x = c k y ∧ ∀ e, e < n → (s x e).2 = (s y e).2 ∧ ((s x e).2 = true → c k (s x e).1 = c k (s y e).1))
  dom : ∀ x e, D x → e < n → (s x e).2 = true → D (s x e).1
theorem Refines.ek {s : α → Nat → α × Bool} {D : α → Prop} {c : Nat → α → Int} (H : Refines n s D c) : ∀ (k : Nat) (x y : α), D x → D y → (c k x = c k y ↔ Ek n s s k x y)
  | 0, x, y, hx, hy => ⟨fun _ => Ek.zero, fun _ => H.zero x y hx hy⟩
  | k + 1, x, y, hx, hy => by
    rw [H.succ k x y hx hy, H.ek k x y hx hy]
    constructor
    · rintro ⟨_, h⟩
      refine Ek.mk' fun e he => ⟨(h e he).1, fun ho => ?_⟩
      exact (H.ek k _ _ (H.dom x e hx he ho) (H.dom y e hy he ((h e he).1 ▸ ho))).1 ((h e he).2 ho)
    · intro h
      refine ⟨h.less (by omega), fun e he => ⟨h.ok he, fun ho => ?_⟩⟩
      exact (H.ek k _ _ (H.dom x e hx he ho) (H.dom y e hy he (h.ok he ▸ ho))).2 (h.next he ho)
theorem stable_lq {s : α → Nat → α × Bool} {D : α → Prop} (hdom : ∀ x e, D x → e < n → (s x e).2 = true → D (s x e).1) {k : Nat} (hst : ∀ x y, D x → D y → Ek n s s k x y → Ek n s s (k + 1) x y) (x y : α) (hx : D x) (hy : D y) (h : Ek n s s k x y) : Lq n s s x y := by
  have key : ∀ m x y, D x → D y → Ek n s s k x y → Ek n s s (k + m) x y := by
    intro m
    induction m with
    | zero => intro x y _ _ h; exact h
    | succ m ih =>
      intro x y hx hy h
      have h1 := hst x y hx hy h
      refine Ek.mk' fun e he => ⟨h1.ok he, fun ho => ?_⟩
      exact ih _ _ (hdom x e hx he ho) (hdom y e hy he (h1.ok he ▸ ho)) (h1.next he ho)
  exact Lq.of fun j => (key j x y hx hy h).less (by omega)
end
def firsts (A : Nat → Int) (N : Nat) : List Nat := (List.range N).filter fun i => (List.range i).all fun j => decide (A j ≠ A i)
theorem mem_firsts {A : Nat → Int} {N i : Nat} : i ∈ firsts A N ↔ i < N ∧ ∀ j, j < i → A j ≠ A i := by
  simp [firsts]
theorem first_of (A : Nat → Int) (N : Nat) (p : Nat) (hp : p < N) : ∃ i, i ∈ firsts A N ∧ A i = A p := by
  induction p using Nat.strongRecOn with
  | _ p ih =>
    by_cases h : ∃ j, j < p ∧ A j = A p
    · obtain ⟨j, hj, he⟩ := h
      obtain ⟨i, hi, h2⟩ := ih j hj (by omega)
      exact ⟨i, hi, h2.trans he⟩
    · exact ⟨p, mem_firsts.2 ⟨hp, fun j hj he => h ⟨j, hj, he⟩⟩, rfl⟩
theorem filter_sub {α : Type} {p q : α → Bool} : ∀ {l : List α}, (∀ x ∈ l, p x = true → q x = true) → (l.filter p).Sublist (l.filter q)
  | [], _ => List.Sublist.refl _
  | x :: l, h => by
    have ih := filter_sub (l := l) (fun y hy => h y (List.mem_cons_of_mem _ hy))
    cases hp : p x with
    | true => rw [List.filter_cons_of_pos hp, List.filter_cons_of_pos (h x List.mem_cons_self hp)]; exact ih.cons_cons x
    | false =>
      rw [List.filter_cons_of_neg (by simp [hp])]
      cases hq : q x with
      | true => rw [List.filter_cons_of_pos hq]; exact ih.cons x
      | false => rw [List.filter_cons_of_neg (by simp [hq])]; exact ih
theorem firsts_sub {A B : Nat → Int} {N : Nat} (h : ∀ p q, p < N → q < N → B p = B q → A p = A q) : (firsts A N).Sublist (firsts B N) := by
  unfold firsts
  refine filter_sub ?_
  intro i hi
  have hi' := List.mem_range.1 hi
  simp only [List.all_eq_true, List.mem_range, decide_eq_true_eq]
  exact fun hh j hj he => hh j hj (h j i (by omega) hi' he)
theorem firsts_eq {A B : Nat → Int} {N : Nat} (h : ∀ p q, p < N → q < N → B p = B q → A p = A q) (hc : (firsts A N).length = (firsts B N).length) : ∀ p q, p < N → q < N → A p = A q → B p = B q := by
  have he := (firsts_sub h).eq_of_length hc
  intro p q hp hq hA
  obtain ⟨i, hi, h1⟩ := first_of B N p hp
  obtain ⟨j, hj, h2⟩ := first_of B N q hq
  have hi' := mem_firsts.1 (he ▸ hi)
  have hj' := mem_firsts.1 (he ▸ hj)
  have hij : A i = A j := (h i p hi'.1 hp h1).trans (hA.trans (h q j hq hj'.1 h2.symm))
  have : i = j := by
    rcases Nat.lt_trichotomy i j with hlt | heq | hlt
    · exact absurd hij (hj'.2 i hlt)
    · exact heq
    · exact absurd hij.symm (hi'.2 j hlt)
  subst this
  exact h1.symm.trans h2
section
variable {α β : Type}
def Side (R : α → β → Prop) (q1 : List α) (q2 : List β) : Prop := q1.length = q2.length ∧ ∀ (i : Nat) (x : α) (y : β), q1[i]? = some x → q2[i]? = some y → R x y
theorem Side.snoc {R : α → β → Prop} {q1 : List α} {q2 : List β} {x : α} {y : β} (h : Side R q1 q2) (hx : R x y) : Side R (q1 ++ [x]) (q2 ++ [y]) := by
  refine ⟨by simp [h.1], fun i u v hu hv => ?_⟩
  rcases Nat.lt_trichotomy i q1.length with hi | hi | hi
  · rw [List.getElem?_append_left hi] at hu
    rw [List.getElem?_append_left (h.1 ▸ hi)] at hv
    exact h.2 i u v hu hv
  · have h2 := h.1
    rw [List.getElem?_append_right (by omega), hi, Nat.sub_self] at hu
    rw [List.getElem?_append_right (by omega), show i - q2.length = 0 from by omega] at hv
    obtain rfl : x = u := by simpa using hu
    obtain rfl : y = v := by simpa using hv
    exact hx
  · rw [List.getElem?_eq_none (by simp; omega)] at hu; cases hu
end
section
variable {α β : Type} [DecidableEq α] [DecidableEq β] {n : Nat} {s1 : α → Nat → α × Bool} {s2 : β → Nat → β × Bool} {a : α} {b : β}
theorem side_place {R : α → β → Prop} (hinj : ∀ x y x' y', R x y → R x' y' → (x = x' ↔ y = y')) : ∀ {q1 : List α} {q2 : List β} {x : α} {y : β}, Side R q1 q2 → R x y → place x q1 = place y q2
  | [], [], _, _, _, _ => by simp [place]
  | [], _ :: _, _, _, h, _ => by have := h.1; simp at this
  | _ :: _, [], _, _, h, _ => by have := h.1; simp at this
  | u :: q1, v :: q2, x, y, h, hx => by
    have huv := h.2 0 u v rfl rfl
    have ht : Side R q1 q2 := ⟨by have := h.1; simpa using this, fun i x y hu hv => h.2 (i + 1) x y (by simpa using hu) (by simpa using hv)⟩
    have ih := side_place hinj ht hx
    have hiff := hinj u v x y huv hx
    simp only [place, List.idxOf_cons] at ih ⊢
    by_cases hc : u = x
    · rw [beq_iff_eq.2 hc, beq_iff_eq.2 (hiff.1 hc)]; rfl
    · rw [beq_eq_false_iff_ne.2 hc, beq_eq_false_iff_ne.2 (fun h => hc (hiff.2 h))]
      simp only [cond_false]
      omega
theorem place_mem {x : α} {q : List α} : x ∈ q ↔ place x q < q.length := List.idxOf_lt_length_iff.symm
theorem side_ins {R : α → β → Prop} (hinj : ∀ x y x' y', R x y → R x' y' → (x = x' ↔ y = y')) {q1 : List α} {q2 : List β} {x : α} {y : β} (h : Side R q1 q2) (hx : R x y) : Side R (ins q1 x) (ins q2 y) := by
  have hp := side_place hinj h hx
  have hiff : x ∈ q1 ↔ y ∈ q2 := by rw [place_mem, place_mem, hp, h.1]
  unfold ins
  by_cases hm : x ∈ q1
  · rw [if_pos hm, if_pos (hiff.1 hm)]; exact h
  · rw [if_neg hm, if_neg (fun h => hm (hiff.2 h))]; exact h.snoc hx
theorem side_row {R : α → β → Prop} (hinj : ∀ x y x' y', R x y → R x' y' → (x = x' ↔ y = y')) (hstep : ∀ x y e, R x y → e < n → (s1 x e).2 = (s2 y e).2 ∧ ((s1 x e).2 = true → R (s1 x e).1 (s2 y e).1)) {q1 : List α} {q2 : List β} {x : α} {y : β} (h : Side R q1 q2) (hx : R x y) :
    ∀ e, e ≤ n → (rowTo s1 x q1 e).1 = (rowTo s2 y q2 e).1 ∧ Side R (rowTo s1 x q1 e).2 (rowTo s2 y q2 e).2
  | 0, _ => ⟨rfl, h⟩
  | e + 1, he => by
    obtain ⟨h1, h2⟩ := side_row hinj hstep h hx e (by omega)
    obtain ⟨h3, h4⟩ := hstep x y e hx (by omega)
    simp only [rowTo]
    rw [← h3]
    cases ho : (s1 x e).2 with
    | false =>
      simp only [Bool.false_eq_true, if_false]
      exact ⟨by rw [h1], h2⟩
    | true =>
      simp only [if_true]
      have h5 := side_place hinj h2 (h4 ho)
      exact ⟨by rw [h1]; congr 2; exact congrArg (fun k : Nat => (k : Int)) h5, side_ins hinj h2 (h4 ho)⟩
theorem bfs_unique (R : α → β → Prop) (hinj : ∀ x y x' y', R x y → R x' y' → (x = x' ↔ y = y')) (hstep : ∀ x y e, R x y → e < n → (s1 x e).2 = (s2 y e).2 ∧ ((s1 x e).2 = true → R (s1 x e).1 (s2 y e).1)) (h0 : R a b) :
    ∀ m, (bfsTo n s1 a m).1 = (bfsTo n s2 b m).1 ∧ Side R (bfsTo n s1 a m).2 (bfsTo n s2 b m).2
  | 0 => ⟨rfl, by
    refine ⟨rfl, fun i x y hx hy => ?_⟩
    simp only [bfsTo] at hx hy
    cases i with
    | zero =>
      obtain rfl : a = x := by simpa using hx
      obtain rfl : b = y := by simpa using hy
      exact h0
    | succ i => simp at hx⟩
  | m + 1 => by
    obtain ⟨h1, h2⟩ := bfs_unique R hinj hstep h0 m
    by_cases h : m < (bfsTo n s1 a m).2.length
    · have h' : m < (bfsTo n s2 b m).2.length := h2.1 ▸ h
      rw [bfsTo_step h, bfsTo_step h']
      obtain ⟨h3, h4⟩ := side_row hinj hstep h2 (h2.2 m _ _ (List.getElem?_eq_getElem h) (List.getElem?_eq_getElem h')) n (Nat.le_refl _)
      exact ⟨by rw [h1, h3], h4⟩
    · rw [bfsTo_stop h, bfsTo_stop (fun h' => h (h2.1 ▸ h'))]
      exact ⟨h1, h2⟩
theorem bfs_lang {D1 : α → Prop} {D2 : β → Prop} (hd1 : ∀ x e, D1 x → e < n → (s1 x e).2 = true → D1 (s1 x e).1) (hd2 : ∀ x e, D2 x → e < n → (s2 x e).2 = true → D2 (s2 x e).1)
    (hr1 : ∀ x y, D1 x → D1 y → Lq n s1 s1 x y → x = y) (hr2 : ∀ x y, D2 x → D2 y → Lq n s2 s2 x y → x = y) (ha : D1 a) (hb : D2 b) (h : Lq n s1 s2 a b) (m : Nat) : (bfsTo n s1 a m).1 = (bfsTo n s2 b m).1 := by
  refine (bfs_unique (fun x y => D1 x ∧ D2 y ∧ Lq n s1 s2 x y) ?_ ?_ ⟨ha, hb, h⟩ m).1
  · rintro x y x' y' ⟨hx, hy, hl⟩ ⟨hx', hy', hl'⟩
    constructor
    · rintro rfl
      exact hr2 _ _ hy hy' (hl.symm.trans hl')
    · rintro rfl
      exact hr1 _ _ hx hx' (hl.trans hl'.symm)
  · rintro x y e ⟨hx, hy, hl⟩ he
    refine ⟨hl.ok he, fun ho => ⟨hd1 x e hx he ho, hd2 y e hy he (hl.ok he ▸ ho), hl.next he ho⟩⟩
end
end Go.Proofs.YtmphigeefppfpaaDoorW.PrintWords
namespace Go.Proofs.YtmphigeefppfpaaDoorW.PrintWords
set_option linter.unusedVariables false
section
variable {α : Type} [DecidableEq α] {n m : Nat} {step : α → Nat → α × Bool} {start : α}
theorem place_pre {q r : List α} {y : α} (h : y ∈ q) : place y (q ++ r) = place y q := by
  unfold place
  rw [List.idxOf_append, if_pos h]
theorem ins_mem (q : List α) (y : α) : y ∈ ins q y := by
  unfold ins
  split
  · assumption
  · simp
theorem ins_sub {q : List α} {y z : α} (h : z ∈ q) : z ∈ ins q y := by
  obtain ⟨r, hr⟩ := ins_pre q y
  rw [hr]; exact List.mem_append_left _ h
theorem place_ins (q : List α) (y : α) : place y (ins q y) = place y q := by
  unfold ins
  split
  · rfl
  · rename_i h
    rw [place_new h, place, List.idxOf_append, if_neg h]
    simp
def Right (step : α → Nat → α × Bool) (x : α) (q : List α) (e : Nat) (r : Int) : Prop := if (step x e).2 then (step x e).1 ∈ q ∧ r = (place (step x e).1 q : Int) else r = -1
theorem Right.more {x : α} {q r : List α} {e : Nat} {v : Int} (h : Right step x q e v) : Right step x (q ++ r) e v := by
  unfold Right at h ⊢
  split
  · rename_i ho
    rw [if_pos ho] at h
    exact ⟨List.mem_append_left _ h.1, by rw [place_pre h.1]; exact h.2⟩
  · rename_i ho
    rwa [if_neg ho] at h
theorem rowTo_right (x : α) (q : List α) : ∀ e j, j < e → Right step x (rowTo step x q e).2 j ((rowTo step x q e).1.getD j 0)
  | 0, j, h => absurd h (Nat.not_lt_zero _)
  | e + 1, j, h => by
    have ih := rowTo_right x q e
    have hl := rowTo_len (step := step) (x := x) (q := q) (e := e)
    simp only [rowTo]
    by_cases ho : (step x e).2 = true
    · simp only [ho, if_true]
      obtain ⟨r, hr⟩ := ins_pre (rowTo step x q e).2 (step x e).1
      rcases Nat.lt_or_ge j e with hj | hj
      · rw [List.getD_eq_getElem?_getD, List.getElem?_append_left (by omega), ← List.getD_eq_getElem?_getD]
        have := (ih j hj).more (r := r)
        rwa [← hr] at this
      · obtain rfl : j = e := by omega
        rw [List.getD_eq_getElem?_getD, List.getElem?_append_right (by omega), hl, Nat.sub_self]
        unfold Right
        rw [if_pos ho]
        refine ⟨ins_mem _ _, ?_⟩
        rw [place_ins]
        rfl
    · have ho' : (step x e).2 = false := by simpa using ho
      simp only [ho', Bool.false_eq_true, if_false]
      rcases Nat.lt_or_ge j e with hj | hj
      · rw [List.getD_eq_getElem?_getD, List.getElem?_append_left (by omega), ← List.getD_eq_getElem?_getD]
        exact ih j hj
      · obtain rfl : j = e := by omega
        rw [List.getD_eq_getElem?_getD, List.getElem?_append_right (by omega), hl, Nat.sub_self]
        unfold Right
        rw [if_neg ho]; rfl
theorem bfs_rows : ∀ i, ∃ r, (bfsTo n step start i).2 = start :: r ∧ (bfsTo n step start i).1.length ≤ (bfsTo n step start i).2.length ∧ ((bfsTo n step start i).1.length = i ∨ ¬ i < (bfsTo n step start i).2.length ∧ (bfsTo n step start i).1.length = (bfsTo n step start i).2.length) ∧
    ∀ j x, j < (bfsTo n step start i).1.length → (bfsTo n step start i).2[j]? = some x → ((bfsTo n step start i).1.getD j []).length = n ∧ ∀ e, e < n → Right step x (bfsTo n step start i).2 e (((bfsTo n step start i).1.getD j []).getD e 0)
  | 0 => ⟨[], rfl, by simp [bfsTo], .inl rfl, fun j x hj => by simp [bfsTo] at hj⟩
  | i + 1 => by
    obtain ⟨r, hr, hle, hlen, hrow⟩ := bfs_rows i
    by_cases h : i < (bfsTo n step start i).2.length
    · have hi : (bfsTo n step start i).1.length = i := by
        rcases hlen with h1 | h1
        · exact h1
        · exact absurd h h1.1
      rw [bfsTo_step h]
      obtain ⟨r2, hr2⟩ := rowTo_pre (step := step) (x := (bfsTo n step start i).2[i]) (q := (bfsTo n step start i).2) (e := n)
      simp only
      refine ⟨r ++ r2, by rw [hr2, hr]; rfl, by rw [hr2]; simp; omega, .inl (by simp [hi]), fun j x hj hx => ?_⟩
      rcases Nat.lt_or_ge j i with hji | hji
      · have hx' : (bfsTo n step start i).2[j]? = some x := by
          rw [hr2, List.getElem?_append_left (by omega)] at hx; exact hx
        obtain ⟨h1, h2⟩ := hrow j x (by omega) hx'
        rw [List.getD_eq_getElem?_getD, List.getElem?_append_left (by omega), ← List.getD_eq_getElem?_getD]
        refine ⟨h1, fun e he => ?_⟩
        have := (h2 e he).more (r := r2)
        rwa [← hr2] at this
      · obtain rfl : j = i := by simp at hj; omega
        have hx' : (bfsTo n step start j).2[j] = x := by
          rw [hr2, List.getElem?_append_left h, List.getElem?_eq_getElem h] at hx
          exact Option.some.inj hx
        rw [List.getD_eq_getElem?_getD, List.getElem?_append_right (by omega), hi, Nat.sub_self]
        simp only [List.getElem?_cons_zero, Option.getD_some]
        refine ⟨rowTo_len, fun e he => ?_⟩
        rw [hx']
        exact rowTo_right x _ n e he
    · rw [bfsTo_stop h]
      refine ⟨r, hr, hle, .inr ⟨by omega, ?_⟩, hrow⟩
      rcases hlen with h1 | h1
      · omega
      · exact h1.2
theorem bfs_done (hm : (bfsTo n step start m).2.length ≤ m) : (bfsTo n step start m).1.length = (bfsTo n step start m).2.length ∧ (∃ r, (bfsTo n step start m).2 = start :: r) ∧
    ∀ j x, (bfsTo n step start m).2[j]? = some x → ((bfsTo n step start m).1.getD j []).length = n ∧ ∀ e, e < n → Right step x (bfsTo n step start m).2 e (((bfsTo n step start m).1.getD j []).getD e 0) := by
  obtain ⟨r, hr, hle, hlen, hrow⟩ := bfs_rows (n := n) (step := step) (start := start) m
  have hl : (bfsTo n step start m).1.length = (bfsTo n step start m).2.length := by
    rcases hlen with h | h
    · omega
    · exact h.2
  refine ⟨hl, ⟨r, hr⟩, fun j x hx => hrow j x ?_ hx⟩
  have := (List.getElem?_eq_some_iff.1 hx).1
  omega
end
end Go.Proofs.YtmphigeefppfpaaDoorW.PrintWords
namespace Go.Proofs.YtmphigeefppfpaaDoor.H
open Go.RowKit Go.Proofs.YtmphigeefppfpaaDoorW.PrintWords Go.Proofs.YtmphigeefppfpaaDoorW.PrintLast Go.Proofs.YtmphigeefppfpaaDoorW.PrintMore
set_option linter.unusedVariables false
theorem exists_least {P : Nat → Prop} (h : ∃ k, P k) : ∃ k, P k ∧ ∀ j, j < k → ¬ P j := by
  obtain ⟨k, hk⟩ := h
  induction k using Nat.strongRecOn with
  | _ k ih =>
    by_cases h : ∃ j, j < k ∧ P j
    · obtain ⟨j, hj, hp⟩ := h
      exact ih j hj hp
    · exact ⟨k, hk, fun j hj hp => h ⟨j, hj, hp⟩⟩
theorem facesTo_at (c : List Int) (g : List (List Int)) : ∀ j q, q < j → face c g q ∈ (facesTo c g j).1 ∧ rd (facesTo c g j).2 q = (place (face c g q) (facesTo c g j).1 : Int)
  | 0, q, h => absurd h (Nat.not_lt_zero _)
  | j + 1, q, h => by
    have hl := facesTo_len c g j
    simp only [facesTo]
    rcases Nat.lt_or_ge q j with hq | hq
    · obtain ⟨h1, h2⟩ := facesTo_at c g j q hq
      obtain ⟨r, hr⟩ := ins_pre (facesTo c g j).1 (face c g j)
      refine ⟨ins_sub h1, ?_⟩
      rw [hr, place_pre h1, ← h2]
      simp only [rd, Int.toNat_natCast, List.getD_eq_getElem?_getD]
      rw [List.getElem?_append_left (by omega)]
    · obtain rfl : q = j := by omega
      refine ⟨ins_mem _ _, ?_⟩
      rw [place_ins]
      simp only [rd, Int.toNat_natCast, List.getD_eq_getElem?_getD]
      rw [List.getElem?_append_right (by omega), hl, Nat.sub_self]
      rfl
theorem place_inj {α : Type} [DecidableEq α] {q : List α} {x y : α} (hx : x ∈ q) (hy : y ∈ q) (h : place x q = place y q) : x = y := by
  have h1 := place_mem.1 hx
  have h2 := place_mem.1 hy
  have e1 : q[place x q] = x := List.getElem_idxOf h1
  have e2 : q[place y q] = y := List.getElem_idxOf h2
  rw [← e1, ← e2]
  congr 1
theorem faces_many (c : List Int) (g : List (List Int)) (A : Nat → Int) : ∀ j, (∀ p q, p < j → q < j → (A p = A q ↔ face c g p = face c g q)) → (facesTo c g j).1.length = (firsts A j).length
  | 0, _ => rfl
  | j + 1, h => by
    have ih := faces_many c g A j (fun p q hp hq => h p q (by omega) (by omega))
    have hmem : face c g j ∈ (facesTo c g j).1 ↔ ∃ p, p < j ∧ face c g p = face c g j := by
      constructor
      · intro hm
        have key : ∀ i, ∀ f ∈ (facesTo c g i).1, ∃ p, p < i ∧ face c g p = f := by
          intro i
          induction i with
          | zero => intro f hf; simp [facesTo] at hf
          | succ i ihi =>
            intro f hf
            simp only [facesTo, ins] at hf
            split at hf
            · obtain ⟨p, hp, he⟩ := ihi f hf; exact ⟨p, by omega, he⟩
            · rcases List.mem_append.1 hf with hf | hf
              · obtain ⟨p, hp, he⟩ := ihi f hf; exact ⟨p, by omega, he⟩
              · exact ⟨i, by omega, (List.mem_singleton.1 hf).symm⟩
        exact key j _ hm
      · rintro ⟨p, hp, he⟩
        rw [← he]; exact (facesTo_at c g j p hp).1
    have hf : firsts A (j + 1) = firsts A j ++ (if (List.range j).all fun i => decide (A i ≠ A j) then [j] else []) := by
      unfold firsts
      rw [List.range_succ, List.filter_append]
      congr 1
      simp only [List.filter_cons, List.filter_nil]
    simp only [facesTo, ins]
    rw [hf, List.length_append, ← ih]
    by_cases hm : face c g j ∈ (facesTo c g j).1
    · rw [if_pos hm]
      obtain ⟨p, hp, he⟩ := hmem.1 hm
      rw [if_neg (by
        simp only [List.all_eq_true, List.mem_range, decide_eq_true_eq]
        exact fun hh => hh p hp ((h p j (by omega) (by omega)).2 he))]
      rfl
    · rw [if_neg hm, List.length_append, if_pos (by
        simp only [List.all_eq_true, List.mem_range, decide_eq_true_eq]
        exact fun p hp he => hm (hmem.2 ⟨p, hp, (h p j (by omega) (by omega)).1 he⟩))]
      rfl
theorem face_eq {n : Nat} {c : List Int} {g : List (List Int)} (hok : graphOk n g) (hc : c.length = g.length) (hc0 : ∀ x ∈ c, 0 ≤ x) {p q : Nat} (hp : p < g.length) (hq : q < g.length) :
    face c g p = face c g q ↔ rd c p = rd c q ∧ ∀ e, e < n → (stepS g p e).2 = (stepS g q e).2 ∧ ((stepS g p e).2 = true → rd c (stepS g p e).1 = rd c (stepS g q e).1) := by
  obtain ⟨lp, rp⟩ := row_at hok hp
  obtain ⟨lq, rq⟩ := row_at hok hq
  have hV : ∀ r, -1 ≤ r ∧ r < (g.length : Int) → (r < 0 → faceV c r = -1) ∧ (¬ r < 0 → faceV c r = rd c r ∧ 0 ≤ rd c r) := by
    intro r hr
    refine ⟨fun h => if_pos h, fun h => ⟨if_neg h, hc0 _ (rd_mem' (by omega) (by omega))⟩⟩
  have hfa : ∀ (h h' : Int) (y y' : List Int), y.length = y'.length → (faceTo c h y y.length = faceTo c h' y' y'.length ↔ h = h' ∧ y.map (faceV c) = y'.map (faceV c)) := by
    intro h h' y y' hl
    unfold faceTo
    rw [List.take_length, List.take_length, hl, List.append_cancel_right_eq, List.cons.injEq]
  unfold face
  rw [hfa _ _ _ _ (lp.trans lq.symm)]
  refine and_congr_right fun _ => ?_
  have hget : ∀ (e : Nat) (y : List Int) (he : e < y.length), (y.map (faceV c))[e]'(by simpa using he) = faceV c (rd y e) := fun e y he => by rw [List.getElem_map, rd_at he]
  have hst : ∀ (j e : Nat), stepS g (j : Int) e = (rd (Q.rd_L1 g (j : Int)) e, decide (rd (Q.rd_L1 g (j : Int)) e ≥ 0)) := fun j e => rfl
  constructor
  · intro h e he
    have h1 : faceV c (rd (Q.rd_L1 g p) e) = faceV c (rd (Q.rd_L1 g q) e) := by
      rw [← hget e _ (by omega), ← hget e _ (by omega)]
      congr 1
    have hvp := hV _ (rp _ (rd_mem (k := e) (by omega)))
    have hvq := hV _ (rq _ (rd_mem (k := e) (by omega)))
    rw [hst, hst]
    simp only
    by_cases n1 : rd (Q.rd_L1 g p) e < 0 <;> by_cases n2 : rd (Q.rd_L1 g q) e < 0
    · exact ⟨by rw [decide_eq_false (by omega), decide_eq_false (by omega)], fun h => by simp at h; omega⟩
    · have a := hvp.1 n1; have b := hvq.2 n2
      omega
    · have a := hvp.2 n1; have b := hvq.1 n2
      omega
    · have a := hvp.2 n1; have b := hvq.2 n2
      exact ⟨by rw [decide_eq_true (by omega), decide_eq_true (by omega)], fun _ => by rw [← a.1, ← b.1]; exact h1⟩
  · intro h
    apply List.ext_getElem
    · rw [List.length_map, List.length_map, lp, lq]
    · intro e h1 h2
      have he : e < n := by rw [List.length_map, lp] at h1; exact h1
      rw [hget e _ (by omega), hget e _ (by omega)]
      have h3 := h e he
      rw [hst, hst] at h3
      simp only at h3
      have hvp := hV _ (rp _ (rd_mem (k := e) (by omega)))
      have hvq := hV _ (rq _ (rd_mem (k := e) (by omega)))
      by_cases n1 : rd (Q.rd_L1 g p) e < 0
      · have n2 : rd (Q.rd_L1 g q) e < 0 := by
          have := h3.1
          rw [decide_eq_false (by omega)] at this
          have := of_decide_eq_false this.symm
          omega
        rw [hvp.1 n1, hvq.1 n2]
      · have n2 : ¬ rd (Q.rd_L1 g q) e < 0 := by
          have := h3.1
          rw [decide_eq_true (by omega)] at this
          have := of_decide_eq_true this.symm
          omega
        rw [(hvp.2 n1).1, (hvq.2 n2).1]
        exact h3.2 (decide_eq_true (by omega))
def clsAt (g : List (List Int)) (k : Nat) (x : Int) : Int := rd (clsTo g k).1 x
def domG (g : List (List Int)) (x : Int) : Prop := 0 ≤ x ∧ x < (g.length : Int)
theorem graph_dom {n : Nat} {g : List (List Int)} (hok : graphOk n g) : ∀ x e, domG g x → e < n → (stepS g x e).2 = true → domG g (stepS g x e).1 := by
  intro x e hx he h
  obtain ⟨j, rfl⟩ : ∃ j : Nat, x = (j : Int) := ⟨x.toNat, by have := hx.1; omega⟩
  have hj : j < g.length := by have := hx.2; omega
  obtain ⟨h1, h2⟩ := row_at hok hj
  have h3 := h2 _ (rd_mem (k := e) (by omega))
  simp only [stepS, decide_eq_true_eq] at h ⊢
  exact ⟨h, h3.2⟩
theorem cls_refines {n : Nat} {g : List (List Int)} (hok : graphOk n g) (hg : 1 ≤ g.length) : Refines n (stepS g) (domG g) (clsAt g) where
  zero := fun x y hx hy => by
    have key : ∀ x, domG g x → clsAt g 0 x = 0 := fun x hx => by
      have : x.toNat < g.length := by have := hx.1; have := hx.2; omega
      simp [clsAt, clsTo, rd, List.getD_eq_getElem?_getD, this]
    rw [key x hx, key y hy]
  succ := fun k x y hx hy => by
    obtain ⟨p, rfl⟩ : ∃ j : Nat, x = (j : Int) := ⟨x.toNat, by have := hx.1; omega⟩
    obtain ⟨q, rfl⟩ : ∃ j : Nat, y = (j : Int) := ⟨y.toNat, by have := hy.1; omega⟩
    have hp : p < g.length := by have := hx.2; omega
    have hq : q < g.length := by have := hy.2; omega
    have hfe := face_eq hok (clsTo_len g k) (fun x hx => (clsTo_range g hg k x hx).1) hp hq
    refine Iff.trans ?_ hfe
    obtain ⟨m1, e1⟩ := facesTo_at (clsTo g k).1 g g.length p hp
    obtain ⟨m2, e2⟩ := facesTo_at (clsTo g k).1 g g.length q hq
    show rd (facesTo (clsTo g k).1 g g.length).2 p = rd (facesTo (clsTo g k).1 g g.length).2 q ↔ _
    rw [e1, e2]
    exact ⟨fun h => place_inj m1 m2 (by omega), fun h => by rw [h]⟩
  dom := graph_dom hok
theorem cls_many {n : Nat} {g : List (List Int)} (hok : graphOk n g) (hg : 1 ≤ g.length) (k : Nat) : (clsTo g k).2 = (firsts (fun i => clsAt g k i) g.length).length := by
  cases k with
  | zero =>
    have hz : ∀ i : Nat, i < g.length → clsAt g 0 i = 0 := fun x hx => by
      simp [clsAt, clsTo, rd, List.getD_eq_getElem?_getD, hx]
    have : firsts (fun i => clsAt g 0 i) g.length = [0] := by
      obtain ⟨d, hd⟩ : ∃ d, g.length = d + 1 := ⟨g.length - 1, by omega⟩
      unfold firsts
      rw [hd, List.range_succ_eq_map, List.filter_cons_of_pos (by simp), List.filter_map, List.filter_eq_nil_iff.2 ?_]
      · rfl
      · intro i hi
        have hi' := List.mem_range.1 hi
        simp only [Function.comp, List.all_eq_true, List.mem_range, decide_eq_true_eq]
        exact fun hh => hh 0 (by omega) ((hz 0 (by omega)).trans (hz (i + 1) (by omega)).symm)
    rw [this]; rfl
  | succ k =>
    show (facesTo (clsTo g k).1 g g.length).1.length = _
    refine faces_many _ g _ g.length fun p q hp hq => ?_
    obtain ⟨m1, e1⟩ := facesTo_at (clsTo g k).1 g g.length p hp
    obtain ⟨m2, e2⟩ := facesTo_at (clsTo g k).1 g g.length q hq
    show rd (facesTo (clsTo g k).1 g g.length).2 p = rd (facesTo (clsTo g k).1 g g.length).2 q ↔ _
    rw [e1, e2]
    exact ⟨fun h => place_inj m1 m2 (by omega), fun h => by rw [h]⟩
end Go.Proofs.YtmphigeefppfpaaDoor.H
namespace Go.Proofs.YtmphigeefppfpaaDoor.H
open Go.RowKit Go.Proofs.YtmphigeefppfpaaDoorW.PrintWords Go.Proofs.YtmphigeefppfpaaDoorW.PrintLast Go.Proofs.YtmphigeefppfpaaDoorW.PrintMore
set_option linter.unusedVariables false
theorem firsts_le (A : Nat → Int) (N : Nat) : (firsts A N).length ≤ N := by
  have := List.length_filter_le (fun i => (List.range i).all fun j => decide (A j ≠ A i)) (List.range N)
  simpa [firsts] using this
theorem cls_sub {n : Nat} {g : List (List Int)} (hok : graphOk n g) (hg : 1 ≤ g.length) (k : Nat) : ∀ p q : Nat, p < g.length → q < g.length → clsAt g (k + 1) p = clsAt g (k + 1) q → clsAt g k p = clsAt g k q := fun p q hp hq h =>
  (((cls_refines hok hg).succ k p q ⟨by omega, by omega⟩ ⟨by omega, by omega⟩).1 h).1
theorem cls_stop {n : Nat} {g : List (List Int)} (hok : graphOk n g) (hg : 1 ≤ g.length) : ∃ k, (clsTo g (k + 1)).2 = (clsTo g k).2 ∧ ∀ j, j < k → (clsTo g (j + 1)).2 ≠ (clsTo g j).2 := by
  refine exists_least ?_
  have hmono : ∀ k, (clsTo g k).2 ≤ (clsTo g (k + 1)).2 := fun k => by
    rw [cls_many hok hg, cls_many hok hg]
    exact (firsts_sub (cls_sub hok hg k)).length_le
  have hle : ∀ k, (clsTo g k).2 ≤ g.length := fun k => by rw [cls_many hok hg]; exact firsts_le _ _
  refine Classical.byContradiction fun hno => ?_
  have hgrow : ∀ k, k + 1 ≤ (clsTo g k).2 := by
    intro k
    induction k with
    | zero => exact Nat.le_refl _
    | succ k ih =>
      have h1 := hmono k
      have h2 : (clsTo g (k + 1)).2 ≠ (clsTo g k).2 := fun h => hno ⟨k, h⟩
      omega
  have h1 := hgrow g.length
  have h2 := hle g.length
  omega
theorem cls_lq {n : Nat} {g : List (List Int)} (hok : graphOk n g) (hg : 1 ≤ g.length) {k : Nat} (hk : (clsTo g (k + 1)).2 = (clsTo g k).2) (x y : Int) (hx : domG g x) (hy : domG g y) : clsAt g (k + 1) x = clsAt g (k + 1) y ↔ Lq n (stepS g) (stepS g) x y := by
  have H := cls_refines hok hg
  rw [cls_many hok hg, cls_many hok hg] at hk
  have hst := firsts_eq (cls_sub hok hg k) hk.symm
  have hst' : ∀ x y, domG g x → domG g y → clsAt g k x = clsAt g k y → clsAt g (k + 1) x = clsAt g (k + 1) y := fun x y hx hy h => by
    have h2 := hst x.toNat y.toNat (by have := hx.1; have := hx.2; omega) (by have := hy.1; have := hy.2; omega)
    simp only [Int.toNat_of_nonneg hx.1, Int.toNat_of_nonneg hy.1] at h2
    exact h2 h
  constructor
  · intro h
    refine stable_lq (k := k) (graph_dom hok) (fun x y hx hy h => ?_) x y hx hy ?_
    · exact (H.ek (k + 1) x y hx hy).1 (hst' x y hx hy ((H.ek k x y hx hy).2 h))
    · exact (H.ek k x y hx hy).1 ((H.succ k x y hx hy).1 h).1
  · intro h
    exact (H.ek (k + 1) x y hx hy).2 (h.ek _)
def IsLeast (n : Nat) (l : List (List Int)) (st : Int) (rows : List (List Int)) : Prop :=
  ∃ (step : Int → Nat → Int × Bool) (start : Int) (D : Int → Prop) (N : Nat), rows = (bfsTo n step start N).1 ∧ (bfsTo n step start N).2.length ≤ N ∧ (∀ x e, D x → e < n → (step x e).2 = true → D (step x e).1) ∧ D start ∧
    (∀ x y, D x → D y → Lq n step step x y → x = y) ∧ Lq n step (stepS l) start st
theorem bfs_more {α : Type} [DecidableEq α] {n N M : Nat} {step : α → Nat → α × Bool} {start : α} (h : (bfsTo n step start N).2.length ≤ N) (hM : N ≤ M) : bfsTo n step start M = bfsTo n step start N := by
  have := bfsTo_stays (n := n) (step := step) (start := start) (i := N) (by omega) (M - N)
  rwa [show N + (M - N) = M from by omega] at this
theorem IsLeast.unique {n : Nat} {l l' : List (List Int)} {st st' : Int} {r r' : List (List Int)} (h : IsLeast n l st r) (h' : IsLeast n l' st' r') (hl : Lq n (stepS l) (stepS l') st st') : r = r' := by
  obtain ⟨s1, a, D1, N1, rfl, f1, d1, i1, red1, l1⟩ := h
  obtain ⟨s2, b, D2, N2, rfl, f2, d2, i2, red2, l2⟩ := h'
  rw [← bfs_more f1 (Nat.le_max_left N1 N2), ← bfs_more f2 (Nat.le_max_right N1 N2)]
  exact bfs_lang d1 d2 red1 red2 i1 i2 (l1.trans (hl.trans l2.symm)) _
theorem table_lq {n N : Nat} {step : Int → Nat → Int × Bool} {start : Int} (h : (bfsTo n step start N).2.length ≤ N) {i : Nat} {x : Int} (hx : (bfsTo n step start N).2[i]? = some x) : Lq n (stepS (bfsTo n step start N).1) step (i : Int) x := by
  obtain ⟨hl, _, hrow⟩ := bfs_done h
  refine Lq.of_rel (fun a x => ∃ i : Nat, a = (i : Int) ∧ (bfsTo n step start N).2[i]? = some x) ?_ ⟨i, rfl, hx⟩
  rintro a x e ⟨i, rfl, hi⟩ he
  obtain ⟨h1, h2⟩ := hrow i x hi
  have h3 := h2 e he
  have h4 : (stepS (bfsTo n step start N).1 (i : Int) e) = (((bfsTo n step start N).1.getD i []).getD e 0, decide (((bfsTo n step start N).1.getD i []).getD e 0 ≥ 0)) := by
    simp [stepS, stepAt, rd, Q.rd_L1]
  rw [h4]
  unfold Right at h3
  by_cases ho : (step x e).2 = true
  · rw [if_pos ho] at h3
    refine ⟨by rw [h3.2, ho]; simp, fun _ => ⟨place (step x e).1 (bfsTo n step start N).2, h3.2, ?_⟩⟩
    rw [List.getElem?_eq_getElem (place_mem.1 h3.1)]
    congr 1
    exact List.getElem_idxOf (place_mem.1 h3.1)
  · rw [if_neg ho] at h3
    have ho' : (step x e).2 = false := by simpa using ho
    refine ⟨by rw [h3, ho']; decide, fun h => ?_⟩
    rw [h3] at h
    simp at h
theorem table_ok {n N : Nat} {step : Int → Nat → Int × Bool} {start : Int} (h : (bfsTo n step start N).2.length ≤ N) : graphOk n (bfsTo n step start N).1 ∧ 1 ≤ (bfsTo n step start N).1.length := by
  obtain ⟨hl, ⟨r, hr⟩, hrow⟩ := bfs_done h
  refine ⟨fun row hm => ?_, by rw [hl, hr]; simp⟩
  obtain ⟨i, hi, rfl⟩ := List.getElem_of_mem hm
  have hi2 : i < (bfsTo n step start N).2.length := by omega
  obtain ⟨h1, h2⟩ := hrow i _ (List.getElem?_eq_getElem hi2)
  rw [List.getD_eq_getElem?_getD, List.getElem?_eq_getElem hi] at h1 h2
  simp only [Option.getD_some] at h1 h2
  refine ⟨h1, fun v hv => ?_⟩
  obtain ⟨e, he, rfl⟩ := List.getElem_of_mem hv
  have h3 := h2 e (by omega)
  rw [List.getD_eq_getElem?_getD, List.getElem?_eq_getElem he] at h3
  simp only [Option.getD_some] at h3
  unfold Right at h3
  split at h3
  · have := place_mem.1 h3.1
    omega
  · omega
theorem least_is {n : Nat} {g : List (List Int)} (hok : graphOk n g) (hg : 1 ≤ g.length) {k : Nat} (hk : (clsTo g (k + 1)).2 = (clsTo g k).2) : IsLeast n g 0 (leastOf n g (clsTo g (k + 1)).1) ∧ (leastOf n g (clsTo g (k + 1)).1).length ≤ g.length := by
  have hKL := clsTo_len g (k + 1)
  have hKR := clsTo_range g hg (k + 1)
  have hcl := fun x y hx hy => cls_lq hok hg hk x y hx hy
  unfold clsAt at hcl
  generalize (clsTo g (k + 1)).1 = K at *
  have hat : ∀ x ∈ K, domG g (place x K : Nat) ∧ rd K (place x K : Nat) = x := fun x hx => by
    have h1 := place_lt hx
    refine ⟨⟨by omega, by omega⟩, ?_⟩
    rw [rd_at h1]; exact List.getElem_idxOf h1
  have h0 : rd K ((0 : Nat) : Int) ∈ K := rd_mem (by omega)
  have hdom : ∀ x e, x ∈ K → e < n → (stepL g K x e).2 = true → (stepL g K x e).1 ∈ K := fun x e hx he h => stepL_dom hok hKL x e hx he h
  have hfin := bfs_size' (n := n) (D := fun x => x ∈ K) hKR hdom h0 g.length
  have hlq : ∀ x ∈ K, ∀ i, domG g i → rd K i = x → Lq n (stepL g K) (stepS g) x i := by
    intro x hx i hi hxi
    refine Lq.of_rel (fun x i => x ∈ K ∧ domG g i ∧ rd K i = x) ?_ ⟨hx, hi, hxi⟩
    rintro x i e ⟨hx, hi, hxi⟩ he
    obtain ⟨hp, hpx⟩ := hat x hx
    have hpi := (hcl (place x K : Nat) i hp hi).1 (by rw [hpx, hxi])
    have hsl : stepL g K x e = if (stepS g (place x K : Nat) e).2 then (rd K (stepS g (place x K : Nat) e).1, true) else (0, false) := by
      unfold stepL stepS stepAt
      by_cases hn : rd (Q.rd_L1 g (place x K : Nat)) e < 0
      · rw [if_pos hn, if_neg (by simp; omega)]
      · rw [if_neg hn, if_pos (by simp; omega)]
    have hok2 := hpi.ok he
    rw [hsl]
    cases ho : (stepS g (place x K : Nat) e).2 with
    | false =>
      rw [ho] at hok2
      simp [← hok2]
    | true =>
      have hnx := hpi.next he ho
      rw [ho] at hok2
      have hd1 := graph_dom hok _ e hp he ho
      have hd2 := graph_dom hok _ e hi he hok2.symm
      simp only [if_true]
      exact ⟨hok2, fun _ => ⟨rd_mem' hd1.1 (by have := hd1.2; omega), hd2, ((hcl _ _ hd1 hd2).2 hnx).symm⟩⟩
  refine ⟨⟨stepL g K, rd K ((0 : Nat) : Int), fun x => x ∈ K, g.length, rfl, hfin, hdom, h0, fun x y hx hy h => ?_, ?_⟩, ?_⟩
  · obtain ⟨hp, hpx⟩ := hat x hx
    obtain ⟨hq, hqx⟩ := hat y hy
    have h1 := ((hlq x hx _ hp hpx).symm.trans h).trans (hlq y hy _ hq hqx)
    rw [← hpx, ← hqx]
    exact (hcl _ _ hp hq).2 h1
  · exact hlq _ h0 _ ⟨by omega, by omega⟩ rfl
  · have := (bfs_done hfin).1
    show (bfsTo n (stepL g K) (rd K ((0 : Nat) : Int)) g.length).1.length ≤ _
    omega
theorem reach_fin {ev st : Int} {l : List (List Int)} (hs : specOk ev st l = true) : (bfsTo ev.toNat (stepS l) st l.length).2.length ≤ l.length := by
  have hh := headOk_true (specOk_head hs)
  exact bfs_size (fun x e hx he h => stepS_dom hs x e hx he h) ⟨by omega, by omega⟩ _
theorem reach_ok {ev st : Int} {l : List (List Int)} (hs : specOk ev st l = true) : graphOk ev.toNat (reachB ev st l).1 ∧ 1 ≤ (reachB ev st l).1.length ∧ (reachB ev st l).1.length ≤ l.length := by
  obtain ⟨h1, h2⟩ := table_ok (reach_fin hs)
  refine ⟨h1, h2, ?_⟩
  have := (bfs_done (reach_fin hs)).1
  have h3 := reach_fin hs
  show (bfsTo ev.toNat (stepS l) st l.length).1.length ≤ _
  omega
theorem reach_lq {ev st : Int} {l : List (List Int)} (hs : specOk ev st l = true) : Lq ev.toNat (stepS (reachB ev st l).1) (stepS l) 0 st := by
  obtain ⟨_, ⟨r, hr⟩, _⟩ := bfs_done (reach_fin hs)
  exact table_lq (i := 0) (reach_fin hs) (by rw [hr]; rfl)
end Go.Proofs.YtmphigeefppfpaaDoor.H
namespace Go.Proofs.YtmphigeefppfpaaDoor.Q
open Go.RowKit Go.Proofs.YtmphigeefppfpaaDoorW.PrintWords Go.Proofs.YtmphigeefppfpaaDoorW.PrintLast Go.Proofs.YtmphigeefppfpaaDoorW.PrintMore
attribute [local go_sem] max2_int min2_int max_two min_two max_three min_three max_four min_four
set_option linter.unusedVariables false
set_option linter.unusedSimpArgs false
def tree_Ranks.l0 : Nat → List Int → List Int → Int → Int → Option (Bool)
  | 0, _, _, _, _ => none
  | k + 1, x0, x5, x6, x7 => if x7 < x6 then (if 0 ≤ x7 then (if x7 < (x5.length : Int) then (if (rd x5 x7) < 0 then (some false) else (if (rd x5 x7) > 4 then (some false) else (tree_Ranks.l0 k x0 x5 x6 (wrap64 (x7 + 1))))) else (none)) else (none)) else (some (decide ((x0.length : Int) ≤ 24)))
def tree_Ranks.f (k : Nat) (l0 : List Int) : Option (Bool) := tree_Ranks.l0 k l0 l0 (l0.length : Int) 0
set_option maxHeartbeats 8000000 in
set_option maxRecDepth 100000 in
theorem tree_Ranks.calls (k : Nat) (A0 : Option Addr) (c0 : Nat) (l0 : List Int) (r : Bool) (w : World) (hr0 : Kd.C (Kd.int .i64) w A0 l0.length l0) (hc0 : l0.length ≤ c0) (h : tree_Ranks.f k l0 = some r) :
    Calls Tryd.prog 10 #[.slice A0 l0.length c0] w fun e w' => e = .returned (.bool r) ∧ Drawn0 w w' := by
  have HR0 := Aside0.mk hr0
  have HC0 := Aside0.mk hc0
  clear hr0 hc0
  have H : (tree_Ranks.l0 k l0 l0 (l0.length : Int) 0) = some r := h
  clear h
  have H' := Aside0.mk H
  clear H
  go_enter Tryd.func10, Tryd.ntmps10
  go_wp2
  go_loopg [7] k (fun kq v7 w' => ∃ (x7_1 : Int), v7 = .int .i64 x7_1 ∧ Aside0 (tree_Ranks.l0 kq l0 l0 (l0.length : Int) x7_1 = some r) ∧ Aside0 (kq ≤ k) ∧ Drawn0 w w')
  case atStart => exact ⟨(0), (by first | rfl | (simp; done) | (simp [*]; done)), H', ⟨Nat.le_refl _⟩, by repeat (first | exact Drawn0.refl _ | apply Drawn0.step)⟩
  case round =>
    clear H'
    obtain ⟨x7_1, rfl, HA, HK1, ⟨m1, rfl⟩⟩ := hrel
    cases gk with
    | zero => exact absurd HA.out (by simp [tree_Ranks.l0])
    | succ k1 =>
      have H := HA.out
      clear HA
      simp only [tree_Ranks.l0] at H
      by_cases c2 : x7_1 < (l0.length : Int)
      · rw [if_pos c2] at H
        have c2b0 : decide (x7_1 < (l0.length : Int)) = true := decide_eq_true c2
        clear c2
        by_cases c3 : 0 ≤ x7_1
        · rw [if_pos c3] at H
          have c3b0 : decide (0 ≤ x7_1) = true := decide_eq_true c3
          clear c3
          by_cases c4 : x7_1 < (l0.length : Int)
          · rw [if_pos c4] at H
            have c4b0 : decide (x7_1 < (l0.length : Int)) = true := decide_eq_true c4
            clear c4
            by_cases c5 : (rd l0 x7_1) < 0
            · rw [if_pos c5] at H
              have c5b0 : decide ((rd l0 x7_1) < 0) = true := decide_eq_true c5
              clear c5
              obtain rfl := Option.some.inj H
              have p162 : 0 ≤ (x7_1 : Int) := of_decide_eq_true (by first | (with_reducible assumption) | assumption)
              have q162 : x7_1 < (l0.length : Int) := of_decide_eq_true (by first | (with_reducible assumption) | assumption)
              obtain ⟨ad162, e162, hx162_0⟩ := Kd.at_int HR0.out x7_1 p162 q162
              cases e162
              replace p162 := eq_true p162
              replace q162 := eq_true q162
              go_wp2
              go_ret
              exact ⟨by first | rfl | (simp; done) | (simp [*]; done), by repeat (first | exact Drawn0.refl _ | apply Drawn0.step)⟩
            · rw [if_neg c5] at H
              have c5b0 : decide ((rd l0 x7_1) < 0) = false := decide_eq_false c5
              clear c5
              by_cases c6 : (rd l0 x7_1) > 4
              · rw [if_pos c6] at H
                have c6b0 : decide (4 < (rd l0 x7_1)) = true := decide_eq_true c6
                clear c6
                obtain rfl := Option.some.inj H
                have p162 : 0 ≤ (x7_1 : Int) := of_decide_eq_true (by first | (with_reducible assumption) | assumption)
                have q162 : x7_1 < (l0.length : Int) := of_decide_eq_true (by first | (with_reducible assumption) | assumption)
                obtain ⟨ad162, e162, hx162_0⟩ := Kd.at_int HR0.out x7_1 p162 q162
                cases e162
                replace p162 := eq_true p162
                replace q162 := eq_true q162
                go_wp2
                go_ret
                exact ⟨by first | rfl | (simp; done) | (simp [*]; done), by repeat (first | exact Drawn0.refl _ | apply Drawn0.step)⟩
              · rw [if_neg c6] at H
                have c6b0 : decide (4 < (rd l0 x7_1)) = false := decide_eq_false c6
                clear c6
                have H' := Aside0.mk H
                clear H
                have p162 : 0 ≤ (x7_1 : Int) := of_decide_eq_true (by first | (with_reducible assumption) | assumption)
                have q162 : x7_1 < (l0.length : Int) := of_decide_eq_true (by first | (with_reducible assumption) | assumption)
                obtain ⟨ad162, e162, hx162_0⟩ := Kd.at_int HR0.out x7_1 p162 q162
                cases e162
                replace p162 := eq_true p162
                replace q162 := eq_true q162
                go_wp2
                go_roundg k1
                case measure => have := HK1.out; omega
                case rel => exact ⟨(wrap64 (x7_1 + 1)), (by first | rfl | (simp; done) | (simp [*]; done)), H', ⟨by have := HK1.out; omega⟩, by repeat (first | exact Drawn0.refl _ | apply Drawn0.step)⟩
          · rw [if_neg c4] at H
            exact absurd H (by simp)
        · rw [if_neg c3] at H
          exact absurd H (by simp)
      · rw [if_neg c2] at H
        have c2b0 : decide (x7_1 < (l0.length : Int)) = false := decide_eq_false c2
        clear c2
        obtain rfl := Option.some.inj H
        go_wp2
        go_ret
        exact ⟨by first | rfl | (simp; done) | (simp [*]; done), by repeat (first | exact Drawn0.refl _ | apply Drawn0.step)⟩
end Go.Proofs.YtmphigeefppfpaaDoor.Q
namespace Go.Proofs.YtmphigeefppfpaaDoor.H
open Go.RowKit Go.Proofs.YtmphigeefppfpaaDoorW.PrintWords Go.Proofs.YtmphigeefppfpaaDoorW.PrintLast Go.Proofs.YtmphigeefppfpaaDoorW.PrintMore
set_option linter.unusedVariables false
def alikeFrom (n : Nat) (l : List (List Int)) (c : List Int) (p q : Int) (e : Nat) : Prop := ∀ f, e ≤ f → f < n → (stepS l p f).2 = (stepS l q f).2 ∧ ((stepS l p f).2 = true → rd c (stepS l p f).1 = rd c (stepS l q f).1)
open Classical in
noncomputable def alikeB (n : Nat) (l : List (List Int)) (c : List Int) (p q : Int) : Bool := decide (alikeFrom n l c p q 0)
def tableOk (n : Nat) (l : List (List Int)) : Prop := ∀ row ∈ l, row.length = n ∧ ∀ r ∈ row, -1 ≤ r ∧ r < (l.length : Int)
theorem trow {n : Nat} {l : List (List Int)} (h : tableOk n l) {q : Int} (hq : domS l q) : (Q.rd_L1 l q).length = n ∧ ∀ r ∈ Q.rd_L1 l q, -1 ≤ r ∧ r < (l.length : Int) := by
  have h2 : q.toNat < l.length := by have := hq.1; have := hq.2; omega
  have h3 : Q.rd_L1 l q = l[q.toNat] := by simp [Q.rd_L1, List.getD_eq_getElem?_getD, List.getElem?_eq_getElem h2]
  rw [h3]; exact h _ (List.getElem_mem h2)
def lowTo (rel : Nat → Bool) (q : Nat) : Nat → Nat
  | 0 => q
  | d + 1 => if rel (q - 1 - d) then q - 1 - d else lowTo rel q d
noncomputable def relB (n : Nat) (l : List (List Int)) (c : List Int) (q p : Nat) : Bool := decide (rd c p = rd c q) && alikeB n l c p q
noncomputable def refNext (n : Nat) (l : List (List Int)) (c : List Int) : Nat → List Int
  | 0 => []
  | j + 1 => refNext n l c j ++ [(lowTo (relB n l c j) j j : Int)]
noncomputable def refCls (n : Nat) (l : List (List Int)) : Nat → List Int
  | 0 => List.replicate l.length 0
  | k + 1 => refNext n l (refCls n l k) l.length
theorem refNext_len (n : Nat) (l : List (List Int)) (c : List Int) (j : Nat) : (refNext n l c j).length = j := by
  induction j with
  | zero => rfl
  | succ j ih => simp [refNext, ih]
theorem refCls_len (n : Nat) (l : List (List Int)) (k : Nat) : (refCls n l k).length = l.length := by
  cases k with
  | zero => simp [refCls]
  | succ k => exact refNext_len _ _ _ _
theorem lowTo_le (rel : Nat → Bool) (q d : Nat) : lowTo rel q d ≤ q := by
  induction d with
  | zero => exact Nat.le_refl _
  | succ d ih =>
    simp only [lowTo]
    split
    · omega
    · exact ih
theorem refNext_range (n : Nat) (l : List (List Int)) (c : List Int) (j : Nat) : ∀ x ∈ refNext n l c j, 0 ≤ x ∧ x < (j : Int) := by
  induction j with
  | zero => simp [refNext]
  | succ j ih =>
    intro x hx
    simp only [refNext, List.mem_append, List.mem_singleton] at hx
    rcases hx with hx | hx
    · have := ih x hx; omega
    · have := lowTo_le (relB n l c j) j j
      omega
theorem refCls_range (n : Nat) (l : List (List Int)) (h : 1 ≤ l.length) (k : Nat) : ∀ x ∈ refCls n l k, 0 ≤ x ∧ x < (l.length : Int) := by
  cases k with
  | zero =>
    intro x hx
    simp only [refCls, List.mem_replicate] at hx
    omega
  | succ k => exact refNext_range _ _ _ _
end Go.Proofs.YtmphigeefppfpaaDoor.H
namespace Go.Proofs.YtmphigeefppfpaaDoor.H
open Go.RowKit Go.Proofs.YtmphigeefppfpaaDoorW.PrintWords Go.Proofs.YtmphigeefppfpaaDoorW.PrintLast Go.Proofs.YtmphigeefppfpaaDoorW.PrintMore
set_option linter.unusedVariables false
def stepR (l : List (List Int)) (K : List Int) (x : Int) (e : Nat) : Int × Bool := if (stepS l x e).2 then (rd K (stepS l x e).1, true) else (0, false)
noncomputable def rleastOf (n : Nat) (l : List (List Int)) (st : Int) : List (List Int) := (bfsTo n (stepR l (refCls n l l.length)) (rd (refCls n l l.length) st) l.length).1
section
variable {α : Type} {d : Kd α} {e base B1 : Nat} {S : Nat → Prop} {W W1 : World} {v : Value} {xs : List α} {row : Option Nat}
theorem R_low (h : d.R e W base (fun k => k < B1) v xs) (hg : W.grownBy W1 row) (hne : ∀ k, row = some k → B1 ≤ k) : d.R e W1 base (fun k => k < B1) v xs :=
  Kd.R_mono (R_stay h hg (fun k hk hlt => absurd (hne k hk) (by omega))) (fun k hk => hk.1)
end
end Go.Proofs.YtmphigeefppfpaaDoor.H
namespace Go.Proofs.YtmphigeefppfpaaDoor.H
open Go.RowKit Go.Proofs.YtmphigeefppfpaaDoorW.PrintWords Go.Proofs.YtmphigeefppfpaaDoorW.PrintLast Go.Proofs.YtmphigeefppfpaaDoorW.PrintMore
set_option linter.unusedVariables false
theorem stepR_dom {n : Nat} {l : List (List Int)} {K : List Int} (hl : tableOk n l) (hK : K.length = l.length) (hr : ∀ x ∈ K, 0 ≤ x ∧ x < (l.length : Int)) : ∀ (x : Int) (e : Nat), domS l x → e < n → (stepR l K x e).2 = true → domS l (stepR l K x e).1 := by
  intro x e hx he h
  obtain ⟨lx, rx⟩ := trow hl hx
  have hst : stepS l x e = (rd (Q.rd_L1 l x) e, decide (rd (Q.rd_L1 l x) e ≥ 0)) := rfl
  have hr1 := rx _ (rd_mem (k := e) (by omega))
  unfold stepR at h ⊢
  rw [hst] at h ⊢
  by_cases h0 : rd (Q.rd_L1 l x) e ≥ 0
  · simp only [decide_eq_true h0, if_true]
    obtain ⟨s, hs⟩ : ∃ s : Nat, rd (Q.rd_L1 l x) e = s := ⟨(rd (Q.rd_L1 l x) e).toNat, by omega⟩
    rw [hs]
    exact hr _ (rd_mem (by omega))
  · simp [h0] at h
end Go.Proofs.YtmphigeefppfpaaDoor.H
namespace Go.Proofs.YtmphigeefppfpaaDoor.H
open Go.RowKit Go.Proofs.YtmphigeefppfpaaDoorW.PrintWords Go.Proofs.YtmphigeefppfpaaDoorW.PrintLast Go.Proofs.YtmphigeefppfpaaDoorW.PrintMore
set_option linter.unusedVariables false
theorem firsts_pos (A : Nat → Int) {N : Nat} (h : 1 ≤ N) : 1 ≤ (firsts A N).length := by
  obtain ⟨i, hi, _⟩ := first_of A N 0 (by omega)
  exact List.length_pos_of_mem hi
theorem refines_lq {n : Nat} {s : Int → Nat → Int × Bool} {N : Nat} {c : Nat → Int → Int} (H : Refines n s (fun x => 0 ≤ x ∧ x < (N : Int)) c) (hN : 1 ≤ N) (x y : Int) (hx : 0 ≤ x ∧ x < (N : Int)) (hy : 0 ≤ y ∧ y < (N : Int)) : c N x = c N y ↔ Lq n s s x y := by
  have hsub : ∀ k, ∀ p q : Nat, p < N → q < N → c (k + 1) p = c (k + 1) q → c k p = c k q := fun k p q hp hq h => ((H.succ k p q ⟨by omega, by omega⟩ ⟨by omega, by omega⟩).1 h).1
  have hstop : ∃ k, k < N ∧ (firsts (fun i => c k i) N).length = (firsts (fun i => c (k + 1) i) N).length := by
    refine Classical.byContradiction fun hno => ?_
    have hgrow : ∀ k, k ≤ N → k + 1 ≤ (firsts (fun i => c k i) N).length := by
      intro k
      induction k with
      | zero => intro _; exact firsts_pos _ hN
      | succ k ih =>
        intro hk
        have h0 := ih (by omega)
        have h1 := (firsts_sub (A := fun i => c k i) (B := fun i => c (k + 1) i) (hsub k)).length_le
        have h2 : (firsts (fun i => c k i) N).length ≠ (firsts (fun i => c (k + 1) i) N).length := fun h => hno ⟨k, by omega, h⟩
        omega
    have h1 := hgrow N (Nat.le_refl _)
    have h2 := firsts_le (fun i => c N i) N
    omega
  obtain ⟨k, hk, hst0⟩ := hstop
  have hst := firsts_eq (hsub k) hst0
  constructor
  · intro h
    refine stable_lq (k := k) H.dom (fun x y hx hy h => ?_) x y hx hy (((H.ek N x y hx hy).1 h).less (by omega))
    have h2 := hst x.toNat y.toNat (by have := hx.1; have := hx.2; omega) (by have := hy.1; have := hy.2; omega)
    simp only [Int.toNat_of_nonneg hx.1, Int.toNat_of_nonneg hy.1] at h2
    exact (H.ek (k + 1) x y hx hy).1 (h2 ((H.ek k x y hx hy).2 h))
  · intro h
    exact (H.ek N x y hx hy).2 (h.ek _)
theorem lowTo_spec (rel : Nat → Bool) (q : Nat) : ∀ d, d ≤ q → (∀ p, q - d ≤ p → p < q → lowTo rel q d ≤ p ∨ rel p = false) ∧ (lowTo rel q d = q ∨ (rel (lowTo rel q d) = true ∧ q - d ≤ lowTo rel q d ∧ lowTo rel q d < q))
  | 0, _ => ⟨fun p h1 h2 => absurd h2 (by omega), .inl rfl⟩
  | d + 1, hd => by
    obtain ⟨h1, h2⟩ := lowTo_spec rel q d (by omega)
    simp only [lowTo]
    by_cases hr : rel (q - 1 - d) = true
    · rw [if_pos hr]
      exact ⟨fun p hp _ => .inl (by omega), .inr ⟨hr, by omega, by omega⟩⟩
    · rw [if_neg hr]
      refine ⟨fun p hp hq => ?_, ?_⟩
      · rcases Nat.lt_or_ge p (q - d) with h | h
        · obtain rfl : p = q - 1 - d := by omega
          exact .inr (by simpa using hr)
        · exact h1 p h hq
      · rcases h2 with h2 | ⟨a, b, c⟩
        · exact .inl h2
        · exact .inr ⟨a, by omega, c⟩
theorem refNext_at (n : Nat) (l : List (List Int)) (c : List Int) : ∀ j q : Nat, q < j → rd (refNext n l c j) (q : Int) = (lowTo (relB n l c q) q q : Int)
  | 0, q, h => absurd h (Nat.not_lt_zero _)
  | j + 1, q, h => by
    have hl := refNext_len n l c j
    simp only [refNext]
    rcases Nat.lt_or_ge q j with hq | hq
    · rw [← refNext_at n l c j q hq, rd_at (by rw [List.length_append]; omega), rd_at (by omega), List.getElem_append_left (by omega)]
    · obtain rfl : q = j := by omega
      rw [rd_at (by rw [List.length_append, List.length_singleton]; omega), List.getElem_append_right (by omega)]
      simp
def relP (n : Nat) (l : List (List Int)) (c : List Int) (p q : Nat) : Prop := rd c (p : Int) = rd c (q : Int) ∧ ∀ e, e < n → (stepS l (p : Int) e).2 = (stepS l (q : Int) e).2 ∧ ((stepS l (p : Int) e).2 = true → rd c (stepS l (p : Int) e).1 = rd c (stepS l (q : Int) e).1)
open Classical in
theorem relB_iff {n : Nat} {l : List (List Int)} {c : List Int} {p q : Nat} : relB n l c q p = true ↔ relP n l c p q := by
  unfold relB alikeB relP
  rw [Bool.and_eq_true]
  exact ⟨fun h => ⟨of_decide_eq_true h.1, fun e he => (of_decide_eq_true h.2 : alikeFrom n l c p q 0) e (Nat.zero_le _) he⟩, fun h => ⟨decide_eq_true h.1, decide_eq_true (show alikeFrom n l c p q 0 from fun e _ he => h.2 e he)⟩⟩
section
variable {n : Nat} {l : List (List Int)} {c : List Int} {p q r : Nat}
theorem relP.refl : relP n l c p p := ⟨rfl, fun e _ => ⟨rfl, fun _ => rfl⟩⟩
theorem relP.symm (h : relP n l c p q) : relP n l c q p := ⟨h.1.symm, fun e he => ⟨(h.2 e he).1.symm, fun ho => ((h.2 e he).2 ((h.2 e he).1.trans ho)).symm⟩⟩
theorem relP.trans (h : relP n l c p q) (h2 : relP n l c q r) : relP n l c p r := ⟨h.1.trans h2.1, fun e he => ⟨(h.2 e he).1.trans (h2.2 e he).1, fun ho => ((h.2 e he).2 ho).trans ((h2.2 e he).2 ((h.2 e he).1.symm.trans ho))⟩⟩
theorem low_rel : relP n l c (lowTo (relB n l c q) q q) q := by
  obtain ⟨_, h⟩ := lowTo_spec (relB n l c q) q q (Nat.le_refl _)
  rcases h with h | ⟨h, _⟩
  · rw [h]; exact .refl
  · exact relB_iff.1 h
theorem low_least (h : relP n l c p q) : lowTo (relB n l c q) q q ≤ p := by
  obtain ⟨h1, _⟩ := lowTo_spec (relB n l c q) q q (Nat.le_refl _)
  rcases Nat.lt_or_ge p q with hpq | hpq
  · rcases h1 p (by omega) hpq with h2 | h2
    · exact h2
    · rw [relB_iff.2 h] at h2; cases h2
  · exact Nat.le_trans (lowTo_le _ _ _) hpq
theorem low_iff : lowTo (relB n l c p) p p = lowTo (relB n l c q) q q ↔ relP n l c p q := by
  constructor
  · intro h
    have h1 : relP n l c (lowTo (relB n l c p) p p) p := low_rel
    have h2 : relP n l c (lowTo (relB n l c q) q q) q := low_rel
    rw [h] at h1
    exact h1.symm.trans h2
  · intro h
    exact Nat.le_antisymm (low_least (low_rel.trans h.symm)) (low_least (low_rel.trans h))
end
theorem ref_next_iff {n : Nat} {l : List (List Int)} {c : List Int} {N p q : Nat} (hp : p < N) (hq : q < N) : rd (refNext n l c N) (p : Int) = rd (refNext n l c N) (q : Int) ↔ relP n l c p q := by
  rw [refNext_at n l c N p hp, refNext_at n l c N q hq, ← low_iff]
  omega
theorem ref_refines {n : Nat} {l : List (List Int)} (hl : tableOk n l) : Refines n (stepS l) (fun x => 0 ≤ x ∧ x < (l.length : Int)) (fun k x => rd (refCls n l k) x) where
  zero := fun x y hx hy => by
    have key : ∀ x : Int, 0 ≤ x ∧ x < (l.length : Int) → rd (refCls n l 0) x = 0 := fun x hx => by
      have : x.toNat < l.length := by omega
      simp [refCls, rd, List.getD_eq_getElem?_getD, this]
    rw [key x hx, key y hy]
  succ := fun k x y hx hy => by
    obtain ⟨p, rfl⟩ : ∃ j : Nat, x = (j : Int) := ⟨x.toNat, by have := hx.1; omega⟩
    obtain ⟨q, rfl⟩ : ∃ j : Nat, y = (j : Int) := ⟨y.toNat, by have := hy.1; omega⟩
    exact ref_next_iff (by omega) (by omega)
  dom := graph_dom hl
theorem ref_idem {n : Nat} {l : List (List Int)} {c : List Int} {N p : Nat} (hp : p < N) : rd (refNext n l c N) (rd (refNext n l c N) (p : Int)) = rd (refNext n l c N) (p : Int) := by
  rw [refNext_at n l c N p hp]
  have hlt : lowTo (relB n l c p) p p < N := Nat.lt_of_le_of_lt (lowTo_le _ _ _) hp
  rw [refNext_at n l c N _ hlt, low_iff.2 low_rel]
theorem rleast_is {n : Nat} {l : List (List Int)} {st : Int} (hl : tableOk n l) (hN : 1 ≤ l.length) (hst : domS l st) : IsLeast n l st (rleastOf n l st) ∧ (rleastOf n l st).length ≤ l.length := by
  have hKL := refCls_len n l l.length
  have hKR := refCls_range n l hN l.length
  have hcl := fun x y hx hy => refines_lq (ref_refines hl) hN x y hx hy
  have hid : ∀ x, domS l x → rd (refCls n l l.length) (rd (refCls n l l.length) x) = rd (refCls n l l.length) x := fun x hx => by
    obtain ⟨j, rfl⟩ : ∃ j : Nat, x = (j : Int) := ⟨x.toNat, by have := hx.1; omega⟩
    obtain ⟨k, hk⟩ : ∃ k, l.length = k + 1 := ⟨l.length - 1, by omega⟩
    rw [hk]
    exact ref_idem (by have := hx.2; omega)
  unfold rleastOf
  generalize refCls n l l.length = K at *
  have hkd : ∀ x, domS l x → domS l (rd K x) := fun x hx => hKR _ (rd_mem' hx.1 (by have := hx.2; omega))
  have hD : ∀ x e, (domS l x ∧ rd K x = x) → e < n → (stepR l K x e).2 = true → (domS l (stepR l K x e).1 ∧ rd K (stepR l K x e).1 = (stepR l K x e).1) := by
    intro x e hx he h
    refine ⟨stepR_dom hl hKL hKR x e hx.1 he h, ?_⟩
    unfold stepR at h ⊢
    by_cases ho : (stepS l x e).2 = true
    · rw [if_pos ho]
      exact hid _ (graph_dom hl x e hx.1 he ho)
    · rw [if_neg ho] at h; simp at h
  have hfin := bfs_size (n := n) (step := stepR l K) (start := rd K st) (fun x e hx he h => stepR_dom hl hKL hKR x e hx he h) (hkd st hst) l.length
  have hlq : ∀ x i, domS l x → domS l i → rd K i = x → rd K x = x → Lq n (stepR l K) (stepS l) x i := by
    intro x i hx hi hxi hxx
    refine Lq.of_rel (fun x i => domS l x ∧ domS l i ∧ rd K i = x ∧ rd K x = x) ?_ ⟨hx, hi, hxi, hxx⟩
    rintro x i e ⟨hx, hi, hxi, hxx⟩ he
    have hpi := (hcl x i hx hi).1 (by rw [hxx, hxi])
    have hok2 := hpi.ok he
    unfold stepR
    cases ho : (stepS l x e).2 with
    | false =>
      rw [ho] at hok2
      simp [← hok2]
    | true =>
      have hnx := hpi.next he ho
      rw [ho] at hok2
      have hd1 := graph_dom hl _ e hx he ho
      have hd2 := graph_dom hl _ e hi he hok2.symm
      simp only [if_true]
      exact ⟨hok2, fun _ => ⟨hkd _ hd1, hd2, ((hcl _ _ hd1 hd2).2 hnx).symm, hid _ hd1⟩⟩
  refine ⟨⟨stepR l K, rd K st, fun x => domS l x ∧ rd K x = x, l.length, rfl, hfin, hD, ⟨hkd st hst, hid st hst⟩, fun x y hx hy h => ?_, hlq _ _ (hkd st hst) hst rfl (hid st hst)⟩, ?_⟩
  · have h1 := ((hlq x x hx.1 hx.1 hx.2 hx.2).symm.trans h).trans (hlq y y hy.1 hy.1 hy.2 hy.2)
    rw [← hx.2, ← hy.2]
    exact (hcl _ _ hx.1 hy.1).2 h1
  · have := (bfs_done hfin).1
    omega
end Go.Proofs.YtmphigeefppfpaaDoor.H
namespace Go.Proofs.YtmphigeefppfpaaDoor.H
open Go.RowKit Go.Proofs.YtmphigeefppfpaaDoorW.PrintWords Go.Proofs.YtmphigeefppfpaaDoorW.PrintLast Go.Proofs.YtmphigeefppfpaaDoorW.PrintMore
set_option linter.unusedVariables false
noncomputable def leastRows (ev st : Int) (l : List (List Int)) : List (List Int) := rleastOf ev.toNat l st
theorem spec_table {ev st : Int} {l : List (List Int)} (hs : specOk ev st l = true) : tableOk ev.toNat l ∧ domS l st ∧ 0 ≤ ev ∧ ev ≤ 16 ∧ 1 ≤ l.length ∧ l.length ≤ 64 := by
  have hh := headOk_true (specOk_head hs)
  refine ⟨fun row hm => ?_, ⟨by omega, by omega⟩, by omega, by omega, by omega, by omega⟩
  simp only [specOk, Bool.and_eq_true, List.all_eq_true] at hs
  have h2 := hs.2 row hm
  simp only [rowOk, Bool.and_eq_true, decide_eq_true_eq, List.all_eq_true] at h2
  exact ⟨by omega, h2.2⟩
theorem leastRows_is {ev st : Int} {l : List (List Int)} (hs : specOk ev st l = true) : IsLeast ev.toNat l st (leastRows ev st l) ∧ (leastRows ev st l).length ≤ l.length := by
  obtain ⟨h1, h2, _, _, h3, _⟩ := spec_table hs
  exact rleast_is h1 h3 h2
def outW (w W : World) (a b c : Value) : World := ((W.setCell ⟨w.heap.size + 1, 0, none⟩ a).setCell ⟨w.heap.size + 1, 1, none⟩ b).setCell ⟨w.heap.size + 1, 2, none⟩ c
theorem results_row_tmp {P : Program} {fn : Func} {p u : Tmp} {ty : TypeId} (h : fn.results = #[.cell p ty, .tmp u]) (tmps : Array Value) (w : World) (g : Nat) (t : TypeId) (cs : Array Value) (fr : Nat × Nat) (d : TypeDesc)
    (hp : tmps.getD p undef = .pointer (some ⟨g, 0, none⟩)) (hg : w.heap[g]? = some (.cells cs t fr))
    (hu : P.underlying ty = some d) (hd : (match d with | .struct _ | .array _ _ => true | _ => false) = true) (hi : (P.info? ty).map (·.size) = some cs.size) :
    (results fn tmps).run P w = .ok (.tuple #[.agg cs, tmps.getD u undef]) w := by
  rw [results_cell_tmp h, hp]
  simp only [asAddr, Sem.run_pure, Result.andThen_ok, run_loadVar_row w g t ty cs fr d hg hu hd hi]
end Go.Proofs.YtmphigeefppfpaaDoor.H
namespace Go.Proofs.YtmphigeefppfpaaDoor.H
open Go.RowKit Go.Proofs.YtmphigeefppfpaaDoorW.PrintWords Go.Proofs.YtmphigeefppfpaaDoorW.PrintLast Go.Proofs.YtmphigeefppfpaaDoorW.PrintMore
set_option linter.unusedVariables false
def GoodAns (err n st : Int) (rows : List (List Int)) : Prop := (err = 0 ∧ specOk n st rows = true) ∨ (err ≠ 0 ∧ n = 0 ∧ st = 0 ∧ rows = [])
def lErr (ev st : Int) (l : List (List Int)) : Int := if specOk ev st l then 0 else 11
def lEv (ev st : Int) (l : List (List Int)) : Int := if specOk ev st l then ev else 0
noncomputable def lRows (ev st : Int) (l : List (List Int)) : List (List Int) := if specOk ev st l then leastRows ev st l else []
theorem isLeast_ok {n : Nat} {l : List (List Int)} {st : Int} {r : List (List Int)} (h : IsLeast n l st r) : tableOk n r ∧ 1 ≤ r.length := by
  obtain ⟨s, a, D, N, rfl, f, _⟩ := h
  exact table_ok f
theorem specOk_of {n : Nat} {r : List (List Int)} (h : tableOk n r) (h1 : 1 ≤ r.length) (h2 : r.length ≤ 64) (hn : n ≤ 16) : specOk (n : Int) 0 r = true := by
  simp only [specOk, headOk, rowOk, Bool.and_eq_true, List.all_eq_true, decide_eq_true_eq]
  exact ⟨by omega, fun row hm => ⟨by have := (h row hm).1; omega, (h row hm).2⟩⟩
theorem least_good (ev st : Int) (l : List (List Int)) : GoodAns (lErr ev st l) (lEv ev st l) 0 (lRows ev st l) := by
  unfold lErr lEv lRows
  cases hs : specOk ev st l with
  | false => exact .inr ⟨by decide, rfl, rfl, rfl⟩
  | true =>
    refine .inl ⟨rfl, ?_⟩
    obtain ⟨h1, h2⟩ := leastRows_is hs
    obtain ⟨h3, h4⟩ := isLeast_ok h1
    obtain ⟨_, _, he0, he1, _, hl⟩ := spec_table hs
    have := specOk_of h3 h4 (by omega) (by omega)
    rwa [show ((ev.toNat : Nat) : Int) = ev from by omega] at this
end Go.Proofs.YtmphigeefppfpaaDoor.H
namespace Go.Proofs.YtmphigeefppfpaaDoor.Q
open Go.RowKit Go.Proofs.YtmphigeefppfpaaDoorW.PrintWords Go.Proofs.YtmphigeefppfpaaDoorW.PrintLast Go.Proofs.YtmphigeefppfpaaDoorW.PrintMore
attribute [local go_sem] max2_int min2_int max_two min_two max_three min_three max_four min_four
set_option linter.unusedVariables false
set_option linter.unusedSimpArgs false
theorem eqA78 (d : Nat) (w : World) (x0 y0 : Int) (x1 y1 : Int) :
    (Op.equalIn (d + 2) 52 (.agg #[.int .i64 x0, .int .i64 x1]) (.agg #[.int .i64 y0, .int .i64 y1])).run Tryd.prog w = .ok (x0 == y0 && (x1 == y1)) w := by
  refine eqA_of Tryd.underlying52 (by kernel_rfl) ?_
  refine eqf_cons (by rfl) (by go_simp; rfl) (by go_simp; rfl) (by go_simp) ?_
  exact eqf_last (by rfl) (by go_simp; rfl) (by go_simp; rfl) (by go_simp)
end Go.Proofs.YtmphigeefppfpaaDoor.Q
namespace Go.Proofs.YtmphigeefppfpaaDoor.H
open Go.RowKit Go.Proofs.YtmphigeefppfpaaDoorW.PrintWords Go.Proofs.YtmphigeefppfpaaDoorW.PrintLast Go.Proofs.YtmphigeefppfpaaDoorW.PrintMore
set_option linter.unusedVariables false
def ranksB (l : List Int) : Bool := (l.all fun r => decide (0 ≤ r) && decide (r ≤ 4)) && decide ((l.length : Int) ≤ 24)
theorem rk_l0 (l : List Int) (hm : l.length ≤ 9223372036854775807) (d : Nat) : ∀ j : Nat, l.length - j = d → j ≤ l.length →
    Ev (fun k => Q.tree_Ranks.l0 k l l (l.length : Int) (j : Int)) (((l.drop j).all fun r => decide (0 ≤ r) && decide (r ≤ 4)) && decide ((l.length : Int) ≤ 24)) := by
  induction d with
  | zero =>
    intro j hd hj
    refine ev_end fun k => ?_
    simp only [Q.tree_Ranks.l0]
    rw [if_neg (by omega), List.drop_eq_nil_of_le (by omega)]
    rfl
  | succ d ih =>
    intro j hd hj
    have hlt : j < l.length := by omega
    rw [all_drop hlt]
    have e : rd l (j : Int) = l[j] := rd_at hlt
    by_cases h1 : l[j] < 0
    · rw [decide_eq_false (by omega : ¬ 0 ≤ l[j])]
      refine ev_end fun k => ?_
      simp only [Q.tree_Ranks.l0]
      rw [if_pos (by omega), if_pos (by omega), if_pos (by omega), e, if_pos h1]; simp
    · by_cases h2 : l[j] > 4
      · rw [decide_eq_false (by omega : ¬ l[j] ≤ 4)]
        refine ev_end fun k => ?_
        simp only [Q.tree_Ranks.l0]
        rw [if_pos (by omega), if_pos (by omega), if_pos (by omega), e, if_neg h1, if_pos h2]; simp
      · rw [decide_eq_true (by omega : 0 ≤ l[j]), decide_eq_true (by omega : l[j] ≤ 4), Bool.true_and, Bool.true_and]
        refine ev_next (ih (j + 1) (by omega) (by omega)) fun k => ?_
        simp only [Q.tree_Ranks.l0]
        rw [if_pos (by omega), if_pos (by omega), if_pos (by omega), e, if_neg h1, if_neg h2, wrap_succ (by omega) (by omega)]
        rfl
theorem ranks_ev (l : List Int) (hm : l.length ≤ 9223372036854775807) : Ev (fun k => Q.tree_Ranks.f k l) (ranksB l) := rk_l0 l hm _ 0 rfl (Nat.zero_le _)
theorem ranks_calls (A : Option Addr) (c : Nat) (l : List Int) (w : World) (hr : Kd.C (Kd.int .i64) w A l.length l) (hc : l.length ≤ c) : Calls Tryd.prog 10 #[.slice A l.length c] w fun e w' => e = .returned (.bool (ranksB l)) ∧ Below w.heap.size w w' := by
  obtain ⟨k, hk⟩ := (ranks_ev l hr.2.1).rounds
  exact (Q.tree_Ranks.calls k A c l _ w hr hc hk).mono fun e w' h => ⟨h.1, h.2.below⟩
def needL (r : Int) (tt : Int) : List Q.S78 := (List.range r.toNat).map fun (k : Nat) => ⟨(k : Int), tt⟩
def auGo (of steps : List Int) (q f : Nat) : Int := if rd of f ≥ 0 then rd steps (rd of f) else (q : Int)
def auAt (rk of steps : List Int) (q f : Nat) : List (List Q.S78) := if auGo of steps q f < 0 then [] else [needL (rd rk f) (auGo of steps q f)]
def auRow (rk of steps : List Int) (q m : Nat) : List (List (List Q.S78)) := (List.range m).map (auAt rk of steps q)
def auMoves (rk of : List Int) (g : List (List Int)) (m : Nat) : List (List (List (List Q.S78))) := (List.range m).map fun (q : Nat) => auRow rk of (Q.rd_L1 g (q : Int)) q rk.length
theorem auRow_len (rk of steps : List Int) (q m : Nat) : (auRow rk of steps q m).length = m := by simp [auRow]
theorem auMoves_len (rk of : List Int) (g : List (List Int)) (m : Nat) : (auMoves rk of g m).length = m := by simp [auMoves]
end Go.Proofs.YtmphigeefppfpaaDoor.H
namespace Go.Proofs.YtmphigeefppfpaaDoor.H
open Go.RowKit Go.Proofs.YtmphigeefppfpaaDoorW.PrintWords Go.Proofs.YtmphigeefppfpaaDoorW.PrintLast Go.Proofs.YtmphigeefppfpaaDoorW.PrintMore
set_option linter.unusedVariables false
abbrev kA1 : Kd (List Q.S78) := Kd.slice 52 Q.k78
abbrev kA2 : Kd (List (List Q.S78)) := Kd.slice 50 kA1
abbrev kA3 : Kd (List (List (List Q.S78))) := Kd.slice 53 kA2
theorem info78 : (Tryd.prog.info? 52).map (fun i => (i.zero, i.size, i.bytes)) = some (some (.agg #[.int .i64 0, .int .i64 0]), 2, 16) := by kernel_rfl
theorem info79 : (Tryd.prog.info? 53).map (fun i => (i.zero, i.size, i.bytes)) = some (some (.slice none 0 0), 1, 24) := by kernel_rfl
theorem info75 : (Tryd.prog.info? 49).map (fun i => (i.zero, i.size, i.bytes)) = some (some (.slice none 0 0), 1, 24) := by kernel_rfl
section
variable {α : Type} {d : Kd α} {e t base n cap g : Nat} {S ok okp : Nat → Prop} {W : World} {v : Value} {x : List α} {xs : List (List α)}
theorem R_one (h : d.R e W base S v x) (hb : base ≤ W.heap.size) : (Kd.slice e d).R t (W.alloc (.cells #[v] t)) base (fun k => S k ∨ k = W.heap.size) (.slice (some ⟨W.heap.size, 0, none⟩) 1 1) [x] := by
  refine ⟨fun k hk => ?_, [v], ⟨by rfl, .inr ⟨W.heap.size, 1, #[v], rfl, hb, blk_new _ _, by simp, by decide, by simp [Kd.slice], by simp [Kd.slice]⟩⟩, ?_⟩
  · have : W.heap.size = k := by simpa [Value.ownBlock] using hk
    exact .inr this.symm
  · refine (Reps.none _ _).snoc ⟨v, rfl, ?_⟩ rfl
    refine Kd.R_mono (Kd.R_alloc (Kd.R_bound h) _) (fun k hk => ⟨.inl hk.1, fun he => ?_⟩)
    have h1 := hk.2.2.1
    have : k = W.heap.size := by simpa [Value.ownBlock] using he
    omega
theorem R_puts (h : (Kd.slice e d).R t W base ok (.slice (some ⟨g, 0, none⟩) n cap) xs) (i : Nat) (hi : i < n) (hv : d.R e W base okp v x) (hokp : ∀ k, okp k → ok k ∧ k ≠ g) :
    (Kd.slice e d).R t (W.setCell ⟨g, i, none⟩ v) base ok (.slice (some ⟨g, 0, none⟩) n cap) (xs.set i x) ∧ W.grownBy (W.setCell ⟨g, i, none⟩ v) (some g) := by
  obtain ⟨c, hcl, _, hcc, _⟩ := Kd.R_elem h [] (i : Int) (by omega) (by omega)
  have hs : (Kd.slice e d).sz = 1 := rfl
  have := Kd.R_seg h (i : Int) (by omega) (by omega) (c := c) (seg := [v]) (j := 0) hcl hcc (by rw [hs]; exact Nat.le_refl _) (x' := x) (okp := okp) (by
    rw [hs] at hcl
    rw [List.take_zero, List.nil_append, List.drop_eq_nil_of_le (by simp; omega), List.append_nil]
    exact ⟨v, rfl, hv⟩) hokp
  rw [hs, Int.toNat_natCast, Nat.mul_one, Nat.add_zero] at this
  exact this
theorem R_cell1 (h : (Kd.slice e d).R t W base ok (.slice (some ⟨g, 0, none⟩) n cap) xs) (i : Nat) (hi : i < n) : ∃ u, W.cell? ⟨g, i, none⟩ = some u ∧ W.frozen? ⟨g, i, none⟩ = false ∧ u.cells.size = 1 := by
  obtain ⟨c, hcl, hM, hcc, hf⟩ := Kd.R_elem h [] (i : Int) (by omega) (by omega)
  obtain ⟨u, rfl, hR⟩ := hM
  have hs : (Kd.slice e d).sz = 1 := rfl
  have h0 := hcc 0 u rfl
  have h1 := hf 0
  rw [hs, Int.toNat_natCast, Nat.mul_one, Nat.add_zero] at h0 h1
  obtain ⟨A, cc, rfl⟩ := Kd.R_slice hR
  exact ⟨_, h0, h1, rfl⟩
theorem R_empty (d : Kd α) (W : World) (base : Nat) (hb : base ≤ W.heap.size) : d.R e (W.alloc (.cells #[] e)) base (fun k => k = W.heap.size) (.slice (some ⟨W.heap.size, 0, none⟩) 0 0) [] := by
  refine ⟨fun k hk => ?_, [], ⟨by simp, .inr ⟨W.heap.size, 0, #[], rfl, hb, blk_new _ _, by simp, by decide, by simp, by simp⟩⟩, Reps.none _ _⟩
  have : W.heap.size = k := by simpa [Value.ownBlock] using hk
  exact this.symm
theorem set_row {n f : Nat} {r : List (List α)} (hr : r.length = f) (hf : f < n) (y : List α) : (r ++ List.replicate (n - f) []).set f y = (r ++ [y]) ++ List.replicate (n - (f + 1)) [] := by
  obtain ⟨m, hm⟩ : ∃ m, n - f = m + 1 := ⟨n - f - 1, by omega⟩
  rw [hm, show n - (f + 1) = m from by omega, List.set_append_right _ _ (by omega), hr, Nat.sub_self, List.replicate_succ, List.set_cons_zero, List.append_assoc]
  rfl
end
def CloneEnd (xs : List Int) (w : World) (E : Ending) (w' : World) : Prop := ∃ (v : Value) (S : Nat → Prop), E = .returned v ∧ Kd.R (Kd.int .i64) 3 w' w.heap.size S v xs ∧ Below w.heap.size w w'
set_option maxHeartbeats 1000000 in
set_option maxRecDepth 100000 in
theorem clone_calls (A : Option Addr) (c : Nat) (xs : List Int) (w : World) (hr : Kd.C (Kd.int .i64) w A xs.length xs) (hm : xs.length * 8 ≤ 140737488355328) : Calls Tryd.prog 15 #[.slice A xs.length c] w (CloneEnd xs w) := by
  have HR := Aside0.mk hr
  cases A with
  | none =>
    have h0 : xs.length = 0 := by
      rcases Nat.eq_zero_or_pos xs.length with h | h
      · exact h
      · obtain ⟨_, h1, _⟩ := hr.2.2 h
        cases h1
    have hx : xs = [] := List.eq_nil_of_length_eq_zero h0
    subst hx
    clear hr h0 hm HR
    have he := fun W : World => Lib.run_eql_slice_nil (P := Tryd.prog) W 25 3 none 0 c 0 0 Tryd.underlying25
    go_enter Tryd.func15, Tryd.ntmps15
    go_wp2
    go_ret
    exact ⟨_, fun _ => False, rfl, Kd.R_nil _ _ _ _ _, Below.refl _ _⟩
  | some ad =>
    clear hr
    have he := fun W : World => Lib.run_eql_slice_nil (P := Tryd.prog) W 25 3 (some ad) xs.length c 0 0 Tryd.underlying25
    go_enter Tryd.func15, Tryd.ntmps15
    go_wp2_with ((with_reducible refine gate_builtin (b := .append) (xs := #[.tmp 5, .tmp 6]) rfl ?_); refine Kd.R_append_rows (Kd.int .i64) (Rr := fun x cs => cs = [Value.int .i64 x]) (w0 := w) w.heap.size rfl (.tmp 5) (.tmp 6) 25 3 (.int .i64 0) 8 rfl Tryd.underlying25 info3 rfl (by decide) (by omega) (.slice (some ⟨w.heap.size, 0, none⟩) 0 0) [] xs (some ad) xs.length c (fun k => w.heap.size ≤ k) (fun _ => False) rfl rfl ?m1 ?m2 (fun _ _ h => h) (fun _ hk => hk.elim) ?m3 ?m4 ?m5 ?m6 ?_; (case m1 => exact Kd.R_mono (R_empty (Kd.int .i64) w w.heap.size (Nat.le_refl _)) (fun k hk => by omega)); (case m2 => exact Kd.C_below HR.out (below_alloc (Below.refl _ _) _)); (case m3 => intro k hk; simp at hk; omega); (case m4 => exact below_alloc (Below.refl _ _) _); (case m5 => simp); (case m6 => simp; omega); intro v1 w1 hr1 hb1 hg1 hat1; have HR1 := Aside0.mk hr1; have HB1 := Aside0.mk hb1; clear hr1 hb1 hg1 hat1)
    go_ret
    exact ⟨_, _, rfl, HR1.out, HB1.out⟩
structure AS (w W : World) (bs : List (Nat × Array Value)) (ob B1 : Nat) (rv gv mv bv : Value) (Sm : Nat → Prop) (rk : List Int) (g : List (List Int)) (M : List (List (List (List Q.S78)))) : Prop where
  hb : Below w.heap.size w W
  hbs : ∀ p ∈ bs, W.heap[p.1]? = some (.cells p.2 24 (0, 0)) ∧ p.1 < B1 ∧ p.1 ≠ ob
  hr : W.heap[w.heap.size + 1]? = some (.cells #[.slice none 0 0, .int .i64 0, .slice none 0 0] 31 (0, 0))
  ho : W.heap[ob]? = some (.cells #[rv, .int .i64 0, bv] 31 (0, 0))
  h1 : w.heap.size + 1 < ob ∧ ob < B1 ∧ B1 ≤ W.heap.size
  hRk : Kd.R (Kd.int .i64) 3 W w.heap.size (fun k => k < B1) rv rk
  hg : Kd.R (Kd.slice 3 (Kd.int .i64)) 25 W w.heap.size (fun k => k < B1) gv g
  hM : Kd.R kA3 49 W B1 Sm mv M
section
variable {w W W1 : World} {bs : List (Nat × Array Value)} {ob B1 : Nat} {rv gv mv bv mv1 : Value} {Sm Sw Sl : Nat → Prop} {rk : List Int} {g : List (List Int)} {M M1 : List (List (List (List Q.S78)))}
theorem AS.below (h : AS w W bs ob B1 rv gv mv bv Sm rk g M) (hb : Below W.heap.size W W1) : AS w W1 bs ob B1 rv gv mv bv Sm rk g M :=
  ⟨below_then h.hb h.hb.size hb, fun p hp => ⟨blk_below (h.hbs p hp).1 hb, (h.hbs p hp).2⟩, blk_below h.hr hb, blk_below h.ho hb, ⟨h.h1.1, h.h1.2.1, Nat.le_trans h.h1.2.2 hb.size⟩, Kd.R_below h.hRk hb, Kd.R_below h.hg hb, Kd.R_below h.hM hb⟩
theorem AS.grown {row : Option Nat} (h : AS w W bs ob B1 rv gv mv bv Sm rk g M) (hg : W.grownBy W1 row) (hne : ∀ k, row = some k → B1 ≤ k ∧ ¬ Sm k) : AS w W1 bs ob B1 rv gv mv bv Sm rk g M := by
  obtain ⟨a1, a2, a3⟩ := h.h1
  have hlt : ∀ b, b < B1 → some b ≠ row := fun b hb e => by have := (hne b e.symm).1; omega
  exact ⟨pw_below_grown h.hb _ h.hb.size hg (fun k hk => by have := (hne k hk).1; omega), fun p hp => ⟨blk_grown (h.hbs p hp).1 hg (hlt _ (h.hbs p hp).2.1), (h.hbs p hp).2⟩, blk_grown h.hr hg (hlt _ (by omega)), blk_grown h.ho hg (hlt _ a2), ⟨a1, a2, Nat.le_trans a3 hg.size⟩,
    R_low h.hRk hg (fun k hk => (hne k hk).1), R_low h.hg hg (fun k hk => (hne k hk).1), Kd.R_grown h.hM hg (fun k hk e => (hne k e.symm).2 hk)⟩
theorem AS.appM {ok : Nat → Prop} (h : AS w W bs ob B1 rv gv mv bv Sm rk g M) (hq : Kd.R kA3 49 W1 B1 ok mv1 M1) (hg : W.grownBy W1 mv.ownBlock) : AS w W1 bs ob B1 rv gv mv1 bv ok rk g M1 := by
  obtain ⟨a1, a2, a3⟩ := h.h1
  have hbase := Kd.R_base h.hM
  have hlt : ∀ b, b < B1 → some b ≠ mv.ownBlock := fun b hb e => by have := hbase b e.symm; omega
  exact ⟨pw_below_grown h.hb _ h.hb.size hg (fun k hk => by have := hbase k hk; omega), fun p hp => ⟨blk_grown (h.hbs p hp).1 hg (hlt _ (h.hbs p hp).2.1), (h.hbs p hp).2⟩, blk_grown h.hr hg (hlt _ (by omega)), blk_grown h.ho hg (hlt _ a2), ⟨a1, a2, Nat.le_trans a3 hg.size⟩,
    R_low h.hRk hg hbase, R_low h.hg hg hbase, hq⟩
theorem AS.put (h : AS w W bs ob B1 rv gv mv bv Sm rk g M) (bv1 : Value) : AS w (W.setCell ⟨ob, 2, none⟩ bv1) bs ob B1 rv gv mv bv1 Sm rk g M := by
  obtain ⟨a1, a2, a3⟩ := h.h1
  have hg := grown_setCell W ⟨ob, 2, none⟩ bv1
  exact ⟨pw_below_grown h.hb _ h.hb.size hg (fun k hk => by cases hk; show _ ≤ ob; omega), fun p hp => ⟨blk_grown (h.hbs p hp).1 hg (fun e => by injection e with e; exact (h.hbs p hp).2.2 e), (h.hbs p hp).2⟩, blk_grown h.hr hg (fun e => by injection e with e; have e2 : w.heap.size + 1 = ob := e; omega), blk_set h.ho 2 bv1, ⟨a1, a2, Nat.le_trans a3 hg.size⟩,
    R_offrow h.hRk h.ho (by simp [Kd.int, Kd.scalar]) hg, R_offrow h.hg h.ho (by simp [Kd.slice, Kd.int, Kd.scalar]) hg, R_offrow h.hM h.ho (by simp [Kd.slice, Q.k78, Kd.iso, Kd.pair, Kd.int, Kd.scalar]) hg⟩
end
def auBad (ev x : Int) : Bool := decide (x < -1) || decide (x ≥ ev)
def auArgs (ev : Int) (rk of : List Int) : Bool := ranksB rk && decide (of.length = rk.length) && !(of.any (auBad ev))
noncomputable def auErr (ev st : Int) (l : List (List Int)) (rk of : List Int) : Int := if specOk ev st l then (if auArgs ev rk of then (if 6 < (leastRows ev st l).length then 3 else 0) else 2) else 11
noncomputable def auRk (ev st : Int) (l : List (List Int)) (rk of : List Int) : List Int := if auErr ev st l rk of = 0 then rk else []
noncomputable def auM (ev st : Int) (l : List (List Int)) (rk of : List Int) : List (List (List (List Q.S78))) := if auErr ev st l rk of = 0 then auMoves rk of (leastRows ev st l) (leastRows ev st l).length else []
def AuEnd (err : Int) (rk : List Int) (M : List (List (List (List Q.S78)))) (w : World) (E : Ending) (w' : World) : Prop :=
  ∃ (A1 A2 : Option Addr) (c1 c2 : Nat) (S1 S2 : Nat → Prop), E = .returned (.tuple #[.agg #[.slice A1 rk.length c1, .int .i64 0, .slice A2 M.length c2], .int .i64 err]) ∧ Kd.R (Kd.int .i64) 3 w' w.heap.size S1 (.slice A1 rk.length c1) rk ∧ Kd.R kA3 49 w' w.heap.size S2 (.slice A2 M.length c2) M ∧ Below w.heap.size w w'
end Go.Proofs.YtmphigeefppfpaaDoor.H
namespace Go.Proofs.YtmphigeefppfpaaDoor.H
open Go.RowKit Go.Proofs.YtmphigeefppfpaaDoorW.PrintWords Go.Proofs.YtmphigeefppfpaaDoorW.PrintLast Go.Proofs.YtmphigeefppfpaaDoorW.PrintMore
set_option linter.unusedVariables false
theorem isLeast_lq {n : Nat} {l : List (List Int)} {st : Int} {r : List (List Int)} (h : IsLeast n l st r) : Lq n (stepS r) (stepS l) 0 st := by
  obtain ⟨s, a, D, N, rfl, f, _, _, _, hl⟩ := h
  obtain ⟨_, ⟨q, hq⟩, _⟩ := bfs_done f
  exact (table_lq (i := 0) f (by rw [hq]; rfl)).trans hl
theorem least_ok {ev st : Int} {l : List (List Int)} (hs : specOk ev st l = true) : specOk ev 0 (leastRows ev st l) = true := by
  rcases least_good ev st l with ⟨_, h⟩ | ⟨h, _⟩
  · simpa [lEv, lRows, hs] using h
  · simp [lErr, hs] at h
end Go.Proofs.YtmphigeefppfpaaDoor.H
namespace Go.Proofs.YtmphigeefppfpaaDoor.H
open Go.RowKit Go.Proofs.YtmphigeefppfpaaDoorW.PrintWords Go.Proofs.YtmphigeefppfpaaDoorW.PrintLast Go.Proofs.YtmphigeefppfpaaDoorW.PrintMore
set_option linter.unusedVariables false
def put3 (W : World) (rb : Nat) (a b c : Value) : World := ((W.setCell ⟨rb, 0, none⟩ a).setCell ⟨rb, 1, none⟩ b).setCell ⟨rb, 2, none⟩ c
theorem put3_grown (W : World) (rb : Nat) (a b c : Value) : W.grownBy (put3 W rb a b c) (some rb) :=
  ⟨rfl, rfl, rfl, by simp [put3, World.setCell], fun i _ hne => by
    have h : i ≠ rb := fun e => hne (by rw [e])
    exact (Below.heap_setCell _ ⟨rb, 2, none⟩ c i h).trans ((Below.heap_setCell _ ⟨rb, 1, none⟩ b i h).trans (Below.heap_setCell _ ⟨rb, 0, none⟩ a i h))⟩
theorem box_cells {W : World} {b : Nat} {x y z : Value} (h : W.heap[b]? = some (.cells #[x, y, z] 24 (0, 0))) : W.cell? ⟨b, 0, none⟩ = some x ∧ W.cell? ⟨b, 1, none⟩ = some y ∧ W.cell? ⟨b, 2, none⟩ = some z :=
  ⟨(blk_cell h 0).trans rfl, (blk_cell h 1).trans rfl, (blk_cell h 2).trans rfl⟩
end Go.Proofs.YtmphigeefppfpaaDoor.H
namespace Go.Proofs.YtmphigeefppfpaaDoor.H
open Go.RowKit Go.Proofs.YtmphigeefppfpaaDoorW.PrintWords Go.Proofs.YtmphigeefppfpaaDoorW.PrintLast Go.Proofs.YtmphigeefppfpaaDoorW.PrintMore
set_option linter.unusedVariables false
structure AL (w W : World) (bs : List (Nat × Array Value)) (ob B1 : Nat) (rv gv mv bv : Value) (rk : List Int) (g : List (List Int)) (M : List (List (List (List Q.S78)))) (yv : Value) (y : List Int) (wv lv : Value) (Sm Sw Sl : Nat → Prop) (row : List (List (List Q.S78))) (lst : List Q.S78) : Prop where
  hA : AS w W bs ob B1 rv gv mv bv Sm rk g M
  hW : Kd.R kA2 53 W B1 Sw wv row
  hL : Kd.R Q.k78 52 W B1 Sl lv lst
  hY : Kd.R (Kd.int .i64) 3 W w.heap.size (fun k => k < B1) yv y
  dmw : Disj Sm Sw
  dml : Disj Sm Sl
  dwl : Disj Sw Sl
section
variable {w W W1 : World} {yv : Value} {y : List Int} {bs : List (Nat × Array Value)} {ob B1 : Nat} {rv gv mv bv wv lv lv1 : Value} {Sm Sw Sl : Nat → Prop} {rk : List Int} {g : List (List Int)} {M : List (List (List (List Q.S78)))} {row : List (List (List Q.S78))} {lst l1 : List Q.S78}
theorem AS.bound (h : AS w W bs ob B1 rv gv mv bv Sm rk g M) : AS w W bs ob B1 rv gv mv bv (fun k => Sm k ∧ k < W.heap.size) rk g M := ⟨h.hb, h.hbs, h.hr, h.ho, h.h1, h.hRk, h.hg, Kd.R_mono (Kd.R_bound h.hM) (fun k hk => ⟨hk.1, hk.2.2.1⟩)⟩
theorem AL.below (h : AL w W bs ob B1 rv gv mv bv rk g M yv y wv lv Sm Sw Sl row lst) (hb : Below W.heap.size W W1) : AL w W1 bs ob B1 rv gv mv bv rk g M yv y wv lv Sm Sw Sl row lst := ⟨h.hA.below hb, Kd.R_below h.hW hb, Kd.R_below h.hL hb, Kd.R_below h.hY hb, h.dmw, h.dml, h.dwl⟩
theorem AL.lit (h : AL w W bs ob B1 rv gv mv bv rk g M yv y wv lv Sm Sw Sl row lst) : AL w (W.alloc (.cells #[] 52)) bs ob B1 rv gv mv bv rk g M yv y wv (.slice (some ⟨W.heap.size, 0, none⟩) 0 0) (fun k => Sm k ∧ k < W.heap.size) (fun k => Sw k ∧ k < W.heap.size) (fun k => k = W.heap.size) row [] := by
  have hb := below_alloc (Below.refl W.heap.size W) (.cells #[] 52)
  exact ⟨(h.hA.bound).below hb, Kd.R_below (Kd.R_mono (Kd.R_bound h.hW) (fun k hk => ⟨hk.1, hk.2.2.1⟩)) hb, R_empty Q.k78 W B1 h.hA.h1.2.2, Kd.R_below h.hY hb, h.dmw.less _, fun k ha hb => by have := ha.2; omega, fun k ha hb => by have := ha.2; omega⟩
theorem AL.appL (h : AL w W bs ob B1 rv gv mv bv rk g M yv y wv lv Sm Sw Sl row lst) (hq : Kd.R Q.k78 52 W1 B1 (fun k => Sl k ∨ W.heap.size ≤ k) lv1 l1) (hg : W.grownBy W1 lv.ownBlock) : AL w W1 bs ob B1 rv gv mv bv rk g M yv y wv lv1 (fun k => Sm k ∧ k < W.heap.size) (fun k => Sw k ∧ k < W.heap.size) (fun k => Sl k ∨ W.heap.size ≤ k) row l1 :=
  ⟨(h.hA.bound).grown hg (fun k hk => ⟨Kd.R_base h.hL k hk, fun hs => h.dml k hs.1 (h.hL.1 k hk)⟩), R_stay h.hW hg (fun k hk hs => h.dwl k hs (h.hL.1 k hk)), hq, R_low h.hY hg (Kd.R_base h.hL), h.dmw.less _, (h.dml.symm.fresh _).symm, (h.dwl.symm.fresh _).symm⟩
theorem AL.store {wb m cw : Nat} (h : AL w W bs ob B1 rv gv mv bv rk g M yv y (.slice (some ⟨wb, 0, none⟩) m cw) lv Sm Sw Sl row lst) (f : Nat) (hf : f < m) :
    AL w ((W.alloc (.cells #[lv] 50)).setCell ⟨wb, f, none⟩ (.slice (some ⟨W.heap.size, 0, none⟩) 1 1)) bs ob B1 rv gv mv bv rk g M yv y (.slice (some ⟨wb, 0, none⟩) m cw) (.slice none 0 0) (fun k => Sm k ∧ k < W.heap.size) (fun k => (Sw k ∨ Sl k) ∨ k = W.heap.size) (fun _ => False) (row.set f [lst]) [] := by
  have hb := below_alloc (Below.refl W.heap.size W) (.cells #[lv] 50)
  have hone : Kd.R kA1 50 (W.alloc (.cells #[lv] 50)) B1 (fun k => Sl k ∨ k = W.heap.size) (.slice (some ⟨W.heap.size, 0, none⟩) 1 1) [lst] := R_one (e := 52) (t := 50) h.hL h.hA.h1.2.2
  have hwb : Sw wb := h.hW.1 wb rfl
  have hwlt : wb < W.heap.size := by
    obtain ⟨cells, hc⟩ := Kd.R_typed h.hW wb rfl
    exact (Array.getElem?_eq_some_iff.1 hc).1
  have hrow := R_puts (d := kA1) (e := 50) (t := 53) (ok := fun k => (Sw k ∨ Sl k) ∨ k = W.heap.size) (Kd.R_mono (Kd.R_below h.hW hb) (fun k hk => .inl (.inl hk))) f hf hone (fun k hk => by
    rcases hk with hk | hk
    · exact ⟨.inl (.inr hk), fun e => h.dwl wb hwb (e ▸ hk)⟩
    · exact ⟨.inr hk, by omega⟩)
  refine ⟨((h.hA.bound).below hb).grown hrow.2 (fun k hk => by cases hk; exact ⟨Kd.R_base h.hW wb rfl, fun hs => h.dmw wb hs.1 hwb⟩), hrow.1, Kd.R_nil _ _ _ _ _, R_low (Kd.R_below h.hY hb) hrow.2 (fun k hk => by cases hk; exact Kd.R_base h.hW wb rfl), fun k ha hb => ?_, fun _ _ h => h, fun _ _ h => h⟩
  rcases hb with (hb | hb) | hb
  · exact h.dmw k ha.1 hb
  · exact h.dml k ha.1 hb
  · have := ha.2; omega
theorem R_rowAt {A : Option Addr} {n cg base : Nat} {ok : Nat → Prop} {W : World} {g : List (List Int)} (h : Kd.R (Kd.slice 3 (Kd.int .i64)) 25 W base ok (.slice A n cg) g) (q : Nat) (hq : q < n) :
    ∃ ad Ay cy, A = some ad ∧ W.cell? (ad.add q) = some (.slice Ay (Q.rd_L1 g (q : Int)).length cy) ∧ Kd.R (Kd.int .i64) 3 W base ok (.slice Ay (Q.rd_L1 g (q : Int)).length cy) (Q.rd_L1 g (q : Int)) := by
  obtain ⟨b, rfl⟩ : ∃ b, A = some ⟨b, 0, none⟩ := by
    obtain ⟨_, inner, ⟨_, ho⟩, _⟩ := h
    rcases ho with ⟨hv, _⟩ | ⟨g', cap', cur, hv, _⟩
    · injection hv with h1 h2 _; omega
    · injection hv with h1 _ _; exact ⟨g', h1⟩
  obtain ⟨c, hcl, hM, hcc, _⟩ := Kd.R_elem h [] (q : Int) (by omega) (by omega)
  obtain ⟨u, rfl, hR⟩ := hM
  have hcc0 := hcc 0 u rfl
  rw [show (Kd.slice 3 (Kd.int .i64)).sz = 1 from rfl, Int.toNat_natCast, Nat.mul_one, Nat.add_zero] at hcc0
  rw [Int.toNat_natCast] at hR
  obtain ⟨Ay, cy, rfl⟩ := Kd.R_slice hR
  have e : g.getD q [] = Q.rd_L1 g (q : Int) := by simp [Q.rd_L1]
  rw [e] at hcc0 hR
  refine ⟨⟨b, 0, none⟩, Ay, cy, rfl, ?_, Kd.R_mono hR (fun k hk => hk.1)⟩
  rw [← hcc0]
  congr 1
  exact add_plain _ _ |>.trans (by simp)
end
structure AB (w W : World) (va : Array Value) : Prop where
  hb : Below w.heap.size w W
  hs : W.heap[w.heap.size]? = some (.cells va 24 (0, 0))
  hr : W.heap[w.heap.size + 1]? = some (.cells #[.slice none 0 0, .int .i64 0, .slice none 0 0] 31 (0, 0))
theorem AB.below {w W W1 : World} {va : Array Value} (h : AB w W va) (hb : Below W.heap.size W W1) : AB w W1 va := ⟨below_then h.hb h.hb.size hb, blk_below h.hs hb, blk_below h.hr hb⟩
theorem AB.start (w : World) (va : Array Value) : AB w ((w.alloc (.cells va 24)).alloc (.cells #[.slice none 0 0, .int .i64 0, .slice none 0 0] 31)) va := ⟨below_alloc (below_alloc (Below.refl _ _) (.cells va 24)) (.cells #[.slice none 0 0, .int .i64 0, .slice none 0 0] 31), blk_alloc (blk_new _ _) _, blk_at2 _ _ _⟩
theorem AB.res {w W : World} {va : Array Value} (h : AB w W va) : (W.cell? ⟨w.heap.size + 1, 0, none⟩ = some (.slice none 0 0) ∧ W.frozen? ⟨w.heap.size + 1, 0, none⟩ = false) ∧ (W.cell? ⟨w.heap.size + 1, 1, none⟩ = some (.int .i64 0) ∧ W.frozen? ⟨w.heap.size + 1, 1, none⟩ = false) ∧ (W.cell? ⟨w.heap.size + 1, 2, none⟩ = some (.slice none 0 0) ∧ W.frozen? ⟨w.heap.size + 1, 2, none⟩ = false) :=
  ⟨⟨(blk_cell h.hr 0).trans rfl, blk_frozen h.hr 0⟩, ⟨(blk_cell h.hr 1).trans rfl, blk_frozen h.hr 1⟩, (blk_cell h.hr 2).trans rfl, blk_frozen h.hr 2⟩
theorem AB.out {w W : World} {va : Array Value} (h : AB w W va) (a b c : Value) : (outW w W a b c).heap[w.heap.size + 1]? = some (.cells #[a, b, c] 31 (0, 0)) ∧ Below w.heap.size w (outW w W a b c) ∧ W.grownBy (outW w W a b c) (some (w.heap.size + 1)) :=
  ⟨blk_set (blk_set (blk_set h.hr 0 a) 1 b) 2 c, pw_below_grown h.hb _ h.hb.size (put3_grown W (w.heap.size + 1) a b c) (fun k hk => by cases hk; omega), put3_grown W (w.heap.size + 1) a b c⟩
theorem AuEnd.err {e : Int} {w W : World} {va : Array Value} (h : AB w W va) : AuEnd e [] [] w (.returned (.tuple #[.agg #[.slice none 0 0, .int .i64 0, .slice none 0 0], .int .i64 e])) (outW w W (.slice none 0 0) (.int .i64 0) (.slice none 0 0)) :=
  ⟨none, none, 0, 0, fun _ => False, fun _ => False, rfl, Kd.R_nil _ _ _ _ _, Kd.R_nil _ _ _ _ _, (h.out _ _ _).2.1⟩
theorem auto1_calls (x ev : Int) (b : Nat) (w : World) (hc : w.cell? ⟨b, 0, none⟩ = some (.int .i64 ev)) :
    Calls Tryd.prog 12 #[.int .i64 x, .pointer (some ⟨b, 0, none⟩)] w fun e w' => e = .returned (.bool (auBad ev x)) ∧ Below w.heap.size w w' := by
  by_cases h1 : x < -1
  · have h2 : decide (x < -1) = true := by simpa using h1
    have H2 := Aside0.mk h2
    clear h1
    go_enter Tryd.func12, Tryd.ntmps12
    go_wp2
    repeat (go_quiet (fail); try go_wp2)
    go_ret
    exact ⟨by rw [auBad, H2.out]; rfl, Below.refl _ _⟩
  · have h2 : decide (x < -1) = false := by simpa using h1
    have H2 := Aside0.mk h2
    clear h1
    go_enter Tryd.func12, Tryd.ntmps12
    go_wp2
    repeat (go_quiet (fail); try go_wp2)
    go_ret
    exact ⟨by rw [auBad, H2.out, Bool.false_or]; rfl, Below.refl _ _⟩
theorem auto1_pred (ev : Int) (b : Nat) (w : World) (hc : w.cell? ⟨b, 0, none⟩ = some (.int .i64 ev)) : PredW 12 #[.pointer (some ⟨b, 0, none⟩)] (Value.int .i64) (fun _ => True) (auBad ev) w :=
  fun _ x hb _ => auto1_calls x ev b _ (pw_cell_below hb hc)
set_option maxHeartbeats 4000000 in
theorem sauto_bad (ev st : Int) (A : Option Addr) (c : Nat) (l : List (List Int)) (A1 A2 : Option Addr) (c1 c2 : Nat) (rk of : List Int) (w : World) (hr : Kd.C (Kd.slice 3 (Kd.int .i64)) w A l.length l)
    (hr1 : Kd.C (Kd.int .i64) w A1 rk.length rk) (hc1 : rk.length ≤ c1) (hr2 : Kd.C (Kd.int .i64) w A2 of.length of) (h : specOk ev st l = false) :
    Calls Tryd.prog 4 #[.agg #[.int .i64 ev, .int .i64 st, .slice A l.length c], .slice A1 rk.length c1, .slice A2 of.length c2] w (AuEnd 11 [] [] w) := by
  have H1 := Aside0.mk fun W (hW : Below w.heap.size w W) => check_calls ev st A c l W (Kd.C_below hr hW)
  rw [show checkVal ev st l = 11 from by simp [checkVal, h]] at H1
  clear hr hr1 hr2 hc1 h
  go_enter Tryd.func4, Tryd.ntmps4
  go_upto_region 1 with (fail)
  have HS := AB.start w #[.int .i64 ev, .int .i64 st, .slice A l.length c]
  generalize ((w.alloc (.cells #[.int .i64 ev, .int .i64 st, .slice A l.length c] 24)).alloc (.cells #[.slice none 0 0, .int .i64 0, .slice none 0 0] 31)) = w0 at *
  obtain ⟨hc0, hc1, hc2⟩ := box_cells HS.hs
  go_wp2_with fail
  refine (H1.out _ HS.hb).mono ?_
  rintro E w1 ⟨rfl, hb⟩
  have HS1 := HS.below hb
  clear hb HS hc0 hc1 hc2 H1
  obtain ⟨⟨hc0, hf0⟩, ⟨hc1, hf1⟩, hc2, hf2⟩ := HS1.res
  go_wp2
  refine bodyPost_ret (results_row_tmp rfl _ _ (w.heap.size + 1) 31 #[.slice none 0 0, .int .i64 0, .slice none 0 0] (0, 0) _ rfl (HS1.out _ _ _).1 Tryd.underlying31 rfl (by kernel_rfl)) rfl ?_
  exact AuEnd.err HS1
set_option maxHeartbeats 4000000 in
theorem sauto_args (ev st : Int) (A : Option Addr) (c : Nat) (l : List (List Int)) (A1 A2 : Option Addr) (c1 c2 : Nat) (rk of : List Int) (w : World) (hr : Kd.C (Kd.slice 3 (Kd.int .i64)) w A l.length l)
    (hr1 : Kd.C (Kd.int .i64) w A1 rk.length rk) (hc1 : rk.length ≤ c1) (hr2 : Kd.C (Kd.int .i64) w A2 of.length of) (h : specOk ev st l = true) (ha : auArgs ev rk of = false) :
    Calls Tryd.prog 4 #[.agg #[.int .i64 ev, .int .i64 st, .slice A l.length c], .slice A1 rk.length c1, .slice A2 of.length c2] w (AuEnd 2 [] [] w) := by
  have H1 := Aside0.mk fun W (hW : Below w.heap.size w W) => check_calls ev st A c l W (Kd.C_below hr hW)
  rw [show checkVal ev st l = 0 from by simp [checkVal, h]] at H1
  have H2 := Aside0.mk fun W (hW : Below w.heap.size w W) => ranks_calls A1 c1 rk W (Kd.C_below hr1 hW) hc1
  have HF := Aside0.mk fun W (hW : Below w.heap.size w W) (hn : W.cell? ⟨w.heap.size, 0, none⟩ = some (.int .i64 ev)) => containsFunc_calls A2 c2 of 12 #[.pointer (some ⟨w.heap.size, 0, none⟩)] (fun _ => True) _ W (Kd.C_below hr2 hW) (fun _ _ => trivial) (auto1_pred _ _ _ hn) (fun _ _ => rfl)
  have hmf := run_mkfun
  have hm1 := hr1.2.1
  have hm2 := hr2.2.1
  clear hr hr1 hr2 hc1 h
  cases hrk : ranksB rk with
  | false =>
    rw [hrk] at H2
    clear ha hrk HF
    go_enter Tryd.func4, Tryd.ntmps4
    go_upto_region 1 with (fail)
    have HS := AB.start w #[.int .i64 ev, .int .i64 st, .slice A l.length c]
    generalize ((w.alloc (.cells #[.int .i64 ev, .int .i64 st, .slice A l.length c] 24)).alloc (.cells #[.slice none 0 0, .int .i64 0, .slice none 0 0] 31)) = w0 at *
    obtain ⟨hc0, hc1, hc2⟩ := box_cells HS.hs
    go_wp2_with fail
    refine (H1.out _ HS.hb).mono ?_
    rintro E w1 ⟨rfl, hb⟩
    have HS1 := HS.below hb
    clear hb HS hc0 hc1 hc2 H1
    go_wp2_with fail
    refine (H2.out _ HS1.hb).mono ?_
    rintro E w2 ⟨rfl, hb⟩
    have HS2 := HS1.below hb
    clear hb HS1 H2
    obtain ⟨⟨hc0, hf0⟩, ⟨hc1, hf1⟩, hc2, hf2⟩ := HS2.res
    go_wp2
    refine bodyPost_ret (results_row_tmp rfl _ _ (w.heap.size + 1) 31 #[.slice none 0 0, .int .i64 0, .slice none 0 0] (0, 0) _ rfl (HS2.out _ _ _).1 Tryd.underlying31 rfl (by kernel_rfl)) rfl ?_
    exact AuEnd.err HS2
  | true =>
    rw [hrk] at H2
    by_cases hlen : of.length = rk.length
    · have d0 : ((of.length : Int) == (rk.length : Int)) = true := beq_iff_eq.2 (by omega)
      have d1 : ((of.length : Int) != (rk.length : Int)) = false := bne_eq_false_iff_eq.2 (by omega)
      have hany : of.any (auBad ev) = true := by
        cases h : of.any (auBad ev) with
        | true => rfl
        | false => simp [auArgs, hrk, hlen, h] at ha
      rw [hany] at HF
      clear ha hrk hany hlen
      go_enter Tryd.func4, Tryd.ntmps4
      go_upto_region 1 with (fail)
      have HS := AB.start w #[.int .i64 ev, .int .i64 st, .slice A l.length c]
      generalize ((w.alloc (.cells #[.int .i64 ev, .int .i64 st, .slice A l.length c] 24)).alloc (.cells #[.slice none 0 0, .int .i64 0, .slice none 0 0] 31)) = w0 at *
      obtain ⟨hc0, hc1, hc2⟩ := box_cells HS.hs
      go_wp2_with fail
      refine (H1.out _ HS.hb).mono ?_
      rintro E w1 ⟨rfl, hb⟩
      have HS1 := HS.below hb
      clear hb HS hc0 hc1 hc2 H1
      go_wp2_with fail
      refine (H2.out _ HS1.hb).mono ?_
      rintro E w2 ⟨rfl, hb⟩
      have HS2 := HS1.below hb
      clear hb HS1 H2
      go_wp2_with fail
      refine (HF.out _ HS2.hb (box_cells HS2.hs).1).mono ?_
      rintro E w3 ⟨rfl, hb⟩
      have HS3 := HS2.below hb
      clear hb HS2 HF
      obtain ⟨⟨hc0, hf0⟩, ⟨hc1, hf1⟩, hc2, hf2⟩ := HS3.res
      go_wp2
      refine bodyPost_ret (results_row_tmp rfl _ _ (w.heap.size + 1) 31 #[.slice none 0 0, .int .i64 0, .slice none 0 0] (0, 0) _ rfl (HS3.out _ _ _).1 Tryd.underlying31 rfl (by kernel_rfl)) rfl ?_
      exact AuEnd.err HS3
    · have d0 : ((of.length : Int) == (rk.length : Int)) = false := beq_eq_false_iff_ne.2 (by omega)
      have d1 : ((of.length : Int) != (rk.length : Int)) = true := bne_iff_ne.2 (by omega)
      clear ha hrk hlen HF
      go_enter Tryd.func4, Tryd.ntmps4
      go_upto_region 1 with (fail)
      have HS := AB.start w #[.int .i64 ev, .int .i64 st, .slice A l.length c]
      generalize ((w.alloc (.cells #[.int .i64 ev, .int .i64 st, .slice A l.length c] 24)).alloc (.cells #[.slice none 0 0, .int .i64 0, .slice none 0 0] 31)) = w0 at *
      obtain ⟨hc0, hc1, hc2⟩ := box_cells HS.hs
      go_wp2_with fail
      refine (H1.out _ HS.hb).mono ?_
      rintro E w1 ⟨rfl, hb⟩
      have HS1 := HS.below hb
      clear hb HS hc0 hc1 hc2 H1
      go_wp2_with fail
      refine (H2.out _ HS1.hb).mono ?_
      rintro E w2 ⟨rfl, hb⟩
      have HS2 := HS1.below hb
      clear hb HS1 H2
      obtain ⟨⟨hc0, hf0⟩, ⟨hc1, hf1⟩, hc2, hf2⟩ := HS2.res
      go_wp2
      refine bodyPost_ret (results_row_tmp rfl _ _ (w.heap.size + 1) 31 #[.slice none 0 0, .int .i64 0, .slice none 0 0] (0, 0) _ rfl (HS2.out _ _ _).1 Tryd.underlying31 rfl (by kernel_rfl)) rfl ?_
      exact AuEnd.err HS2
end Go.Proofs.YtmphigeefppfpaaDoor.H
namespace Go.Proofs.YtmphigeefppfpaaDoor.H
open Go.RowKit Go.Proofs.YtmphigeefppfpaaDoorW.PrintWords Go.Proofs.YtmphigeefppfpaaDoorW.PrintLast Go.Proofs.YtmphigeefppfpaaDoorW.PrintMore
set_option linter.unusedVariables false
theorem auArgs_true {ev : Int} {rk of : List Int} (h : auArgs ev rk of = true) : ranksB rk = true ∧ of.length = rk.length ∧ of.any (auBad ev) = false ∧ (∀ f : Nat, f < rk.length → -1 ≤ rd of f ∧ rd of f < ev) ∧ rk.length ≤ 24 ∧ ∀ f : Nat, f < rk.length → 0 ≤ rd rk f ∧ rd rk f ≤ 4 := by
  simp only [auArgs, Bool.and_eq_true, decide_eq_true_eq, Bool.not_eq_true'] at h
  obtain ⟨⟨h1, h2⟩, h3⟩ := h
  refine ⟨h1, h2, h3, fun f hf => ?_, ?_⟩
  · have h4 := (List.any_eq_false.1 h3) (rd of f) (rd_mem (by omega))
    simp only [auBad, Bool.or_eq_true, decide_eq_true_eq, not_or] at h4
    omega
  · simp only [ranksB, Bool.and_eq_true, List.all_eq_true, decide_eq_true_eq] at h1
    refine ⟨by omega, fun f hf => ?_⟩
    exact h1.1 _ (rd_mem hf)
theorem auRow_succ (rk of steps : List Int) (q f : Nat) : auRow rk of steps q (f + 1) = auRow rk of steps q f ++ [auAt rk of steps q f] := by
  simp [auRow, List.range_succ]
theorem auMoves_succ (rk of : List Int) (g : List (List Int)) (q : Nat) : auMoves rk of g (q + 1) = auMoves rk of g q ++ [auRow rk of (Q.rd_L1 g q) q rk.length] := by
  simp [auMoves, List.range_succ]
def needTo (k : Nat) (tt : Int) : List Q.S78 := (List.range k).map fun (k : Nat) => ⟨(k : Int), tt⟩
theorem needTo_succ (k : Nat) (tt : Int) : needTo (k + 1) tt = needTo k tt ++ [⟨(k : Int), tt⟩] := by simp [needTo, List.range_succ]
theorem needTo_len (k : Nat) (tt : Int) : (needTo k tt).length = k := by simp [needTo]
theorem AS.fin {w W : World} {bs : List (Nat × Array Value)} {ob B1 : Nat} {rv gv mv bv : Value} {Sm : Nat → Prop} {rk : List Int} {g : List (List Int)} {M : List (List (List (List Q.S78)))} (h : AS w W bs ob B1 rv gv mv bv Sm rk g M) (a b c : Value) :
    (outW w W a b c).heap[w.heap.size + 1]? = some (.cells #[a, b, c] 31 (0, 0)) ∧ Kd.R (Kd.int .i64) 3 (outW w W a b c) w.heap.size (fun k => k < B1) rv rk ∧ Kd.R kA3 49 (outW w W a b c) w.heap.size Sm mv M ∧ Below w.heap.size w (outW w W a b c) := by
  have hg := put3_grown W (w.heap.size + 1) a b c
  obtain ⟨a1, a2, a3⟩ := h.h1
  exact ⟨blk_set (blk_set (blk_set h.hr 0 a) 1 b) 2 c, R_offrow h.hRk h.hr (by simp [Kd.int, Kd.scalar]) hg, R_offrow (Kd.R_lower h.hM (by omega)) h.hr (by simp [Kd.slice, Q.k78, Kd.iso, Kd.pair, Kd.int, Kd.scalar]) hg, pw_below_grown h.hb _ h.hb.size hg (fun k hk => by cases hk; omega)⟩
theorem below_base {B : Nat} {w W : World} (h : Below w.heap.size w W) (hB : B ≤ w.heap.size) : Below B w W := h.mono hB
set_option maxHeartbeats 8000000 in
set_option maxRecDepth 100000 in
theorem sauto_go (ev st : Int) (A : Option Addr) (c : Nat) (l : List (List Int)) (A1 A2 : Option Addr) (c1 c2 : Nat) (rk of : List Int) (w : World) (hr : Kd.C (Kd.slice 3 (Kd.int .i64)) w A l.length l)
    (hr1 : Kd.C (Kd.int .i64) w A1 rk.length rk) (hc1 : rk.length ≤ c1) (hr2 : Kd.C (Kd.int .i64) w A2 of.length of) (hs : specOk ev st l = true) (ha : auArgs ev rk of = true) :
    Calls Tryd.prog 4 #[.agg #[.int .i64 ev, .int .i64 st, .slice A l.length c], .slice A1 rk.length c1, .slice A2 of.length c2] w (AuEnd (auErr ev st l rk of) (auRk ev st l rk of) (auM ev st l rk of) w) := by
  have H1 := Aside0.mk fun W (hW : Below w.heap.size w W) => check_calls ev st A c l W (Kd.C_below hr hW)
  rw [show checkVal ev st l = 0 from by simp [checkVal, hs]] at H1
  obtain ⟨hrk, hlen, hany, hof, hl24, hrr⟩ := auArgs_true ha
  have H2 := Aside0.mk fun W (hW : Below w.heap.size w W) => ranks_calls A1 c1 rk W (Kd.C_below hr1 hW) hc1
  rw [hrk] at H2
  have HF := Aside0.mk fun W (hW : Below w.heap.size w W) (hn : W.cell? ⟨w.heap.size, 0, none⟩ = some (.int .i64 ev)) => containsFunc_calls A2 c2 of 12 #[.pointer (some ⟨w.heap.size, 0, none⟩)] (fun _ => True) _ W (Kd.C_below hr2 hW) (fun _ _ => trivial) (auto1_pred _ _ _ hn) (fun _ _ => rfl)
  rw [hany] at HF
  have HCL := Aside0.mk fun W (hW : Below w.heap.size w W) => clone_calls A1 c1 rk W (Kd.C_below hr1 hW) (by omega)
  unfold CloneEnd at HCL
  have HRK := Aside0.mk hr1
  have HOF := Aside0.mk hr2
  have HOR := Aside0.mk hof
  have HRR := Aside0.mk hrr
  have HLEN := Aside0.mk hlen
  have hmf := run_mkfun
  obtain ⟨ht, hst, he0, he1, hl0, hl1⟩ := spec_table hs
  obtain ⟨hg, hg0, hg1⟩ := reach_ok hs
  obtain ⟨k, hk, hmin⟩ := cls_stop hg hg0
  have hrows : leastOf ev.toNat (reachB ev st l).1 (clsTo (reachB ev st l).1 (k + 1)).1 = leastRows ev st l := ((leastRows_is hs).1.unique (least_is hg hg0 hk).1 (reach_lq hs).symm).symm
  have HTAB := Aside0.mk (isLeast_ok (leastRows_is hs).1)
  have H3 := Aside0.mk fun W (hW : Below w.heap.size w W) => reached_calls ev st A c l W (Kd.C_below hr hW) hs
  have H4 := Aside0.mk fun W A cg (hc : Kd.C (Kd.slice 3 (Kd.int .i64)) W A (reachB ev st l).1.length (reachB ev st l).1) => least_calls ev.toNat (reachB ev st l).1 A cg k 0 W hc (by omega) hg0 (by omega) hg hk hmin
  rw [show ((ev.toNat : Nat) : Int) = ev from by omega] at H4
  unfold ReachEnd at H3
  unfold LeastEnd at H4
  rw [hrows] at H4
  have HE := Aside0.mk (show (6 < (leastRows ev st l).length → auErr ev st l rk of = 3 ∧ auRk ev st l rk of = [] ∧ auM ev st l rk of = []) ∧ (¬ 6 < (leastRows ev st l).length → auErr ev st l rk of = 0 ∧ auRk ev st l rk of = rk ∧ auM ev st l rk of = auMoves rk of (leastRows ev st l) (leastRows ev st l).length) from
    ⟨fun h => by simp [auErr, auRk, auM, hs, ha, h], fun h => by simp [auErr, auRk, auM, hs, ha, h]⟩)
  generalize auErr ev st l rk of = err at *
  generalize auRk ev st l rk of = rkE at *
  generalize auM ev st l rk of = mE at *
  obtain ⟨n, rfl⟩ : ∃ n : Nat, ev = (n : Int) := ⟨ev.toNat, by omega⟩
  rw [Int.toNat_natCast] at HTAB
  generalize leastRows n st l = g at *
  generalize (reachB n st l).1 = rg at *
  have hm1 := hr1.2.1
  have hm2 := hr2.2.1
  clear hr hr1 hr2 hc1 hs ha hrk hany hof hrr ht hst hl0 hl1 hg hg0 hg1 hk hmin hrows he0 he1
  have d0 : ((of.length : Int) == (rk.length : Int)) = true := beq_iff_eq.2 (by omega)
  have d1 : ((of.length : Int) != (rk.length : Int)) = false := bne_eq_false_iff_eq.2 (by omega)
  clear hlen
  go_enter Tryd.func4, Tryd.ntmps4
  go_upto_region 1 with (fail)
  have HS := AB.start w #[.int .i64 n, .int .i64 st, .slice A l.length c]
  generalize ((w.alloc (.cells #[.int .i64 n, .int .i64 st, .slice A l.length c] 24)).alloc (.cells #[.slice none 0 0, .int .i64 0, .slice none 0 0] 31)) = w0 at *
  obtain ⟨hc0, hc1, hc2⟩ := box_cells HS.hs
  go_wp2_with fail
  refine (H1.out _ HS.hb).mono ?_
  rintro E w1 ⟨rfl, hb⟩
  have HS1 := HS.below hb
  clear hb HS hc0 hc1 hc2 H1
  go_wp2_with fail
  refine (H2.out _ HS1.hb).mono ?_
  rintro E w2 ⟨rfl, hb⟩
  have HS2 := HS1.below hb
  clear hb HS1 H2
  go_wp2_with fail
  refine (HF.out _ HS2.hb (box_cells HS2.hs).1).mono ?_
  rintro E w3 ⟨rfl, hb⟩
  have HS3 := HS2.below hb
  clear hb HS2 HF d0 d1
  go_upto_region 6 with (fail)
  go_cut [9] from 41 to 45 (fun s9 wx => ∃ (Ag : Option Addr) (cg : Nat) (Sg : Nat → Prop), s9 = .slice Ag g.length cg ∧ Aside0 (AB w wx #[.int .i64 n, .int .i64 st, .slice A l.length c]) ∧ Aside0 (Kd.R (Kd.slice 3 (Kd.int .i64)) 25 wx w.heap.size Sg (.slice Ag g.length cg) g))
  case first =>
    have HS := HS3.below (W1 := w3.drew) (below_drew (Below.refl _ _))
    clear HS3
    go_region_held3 (fun w' => w'.cell? ⟨w.heap.size, 0, none⟩ = some (.int .i64 n) ∧ w'.cell? ⟨w.heap.size, 1, none⟩ = some (.int .i64 st) ∧ w'.cell? ⟨w.heap.size, 2, none⟩ = some (.slice A l.length c))
      (first | exact box_cells (AB.hs (by assumption)) | fail) (first
      | (go_at_call 14; refine (H3.out _ HS.hb).mono ?_; rintro E w4 ⟨ov, So, rfl, ho, hb⟩; (obtain ⟨Ag, cg, rfl⟩ := Kd.R_slice ho); have HO := Aside0.mk (Kd.R_reads' ho); have HS1 := HS.below hb; clear HS hb ho)
      | (go_at_call 13; refine (H4.out _ _ _ (HO.out).2.2).mono ?_; rintro E w5 ⟨ov2, So2, rfl, ho2, hb2⟩; have HB1 := Aside0.mk HS1.hb.size; (obtain ⟨A3, c3, rfl⟩ := Kd.R_slice ho2); have HO2 := Aside0.mk ho2; have HS2 := HS1.below hb2; clear HS1 hb2 ho2)
      | fail)
    all_goals
      go_wp2_with fail
      go_meet
      exact ⟨A3, c3, So2, rfl, ⟨HS2⟩, ⟨Kd.R_lower HO2.out HB1.out⟩⟩
  case rest =>
    clear HS3 H3 H4
    obtain ⟨Ag, cg, Sg, rfl, HS, HG⟩ := hcut
    generalize wc = w4 at *
    by_cases h6 : 6 < g.length
    · have hz : (g.length : Int) > 6 := by omega
      obtain ⟨e1, e2, e3⟩ := (HE.out).1 h6
      subst e1; subst e2; subst e3
      clear HE h6
      obtain ⟨⟨hc0, hf0⟩, ⟨hc1, hf1⟩, hc2, hf2⟩ := (HS.out).res
      go_wp2
      refine bodyPost_ret (results_row_tmp rfl _ _ (w.heap.size + 1) 31 #[.slice none 0 0, .int .i64 0, .slice none 0 0] (0, 0) _ rfl ((HS.out).out _ _ _).1 Tryd.underlying31 rfl (by kernel_rfl)) rfl ?_
      exact AuEnd.err HS.out
    · have hz : ¬ (g.length : Int) > 6 := by omega
      obtain ⟨e1, e2, e3⟩ := (HE.out).2 h6
      have HEE := Aside0.mk (show err = 0 ∧ rkE = rk ∧ mE = auMoves rk of g g.length from ⟨e1, e2, e3⟩)
      clear e1 e2 e3
      have hg6 : g.length ≤ 6 := by omega
      clear HE h6
      go_wp2_with fail
      refine (HCL.out _ (HS.out).hb).mono ?_
      rintro E w5 ⟨v5, S5, rfl, hr5, hb5⟩
      obtain ⟨A5, c5, rfl⟩ := Kd.R_slice hr5
      have HS5 := Aside0.mk ((HS.out).below hb5)
      have HG5 := Aside0.mk (Kd.R_below HG.out hb5)
      have HR5 := Aside0.mk (Kd.R_lower hr5 ((HS.out).hb).size)
      clear hr5 hb5 HS HG HCL
      go_upto_region 10 with (fail)
      have hb6 := below_alloc (Below.refl w5.heap.size w5) (.cells #[.slice A5 rk.length c5, .int .i64 0, .slice none 0 0] 31)
      have HAS := Aside0.mk (AS.mk (w := w) (W := w5.alloc (.cells #[.slice A5 rk.length c5, .int .i64 0, .slice none 0 0] 31)) (bs := [(w.heap.size, #[.int .i64 n, .int .i64 st, .slice A l.length c])]) (ob := w5.heap.size) (B1 := (w5.alloc (.cells #[.slice A5 rk.length c5, .int .i64 0, .slice none 0 0] 31)).heap.size) (rv := .slice A5 rk.length c5) (gv := .slice Ag g.length cg) (mv := .slice none 0 0) (bv := .slice none 0 0) (Sm := fun _ => False) (rk := rk) (g := g) (M := [])
        ((HS5.out).below hb6).hb (fun p hp => by
          rw [List.mem_singleton.1 hp]
          have := (Array.getElem?_eq_some_iff.1 (HS5.out).hs).1
          have h2 := (Array.getElem?_eq_some_iff.1 (HS5.out).hr).1
          exact ⟨((HS5.out).below hb6).hs, by simp; omega, by show w.heap.size ≠ w5.heap.size; omega⟩) ((HS5.out).below hb6).hr (blk_new _ _)
        ⟨(Array.getElem?_eq_some_iff.1 (HS5.out).hr).1, by simp, Nat.le_refl _⟩ (Kd.R_mono (Kd.R_bound (Kd.R_below (HR5.out) hb6)) (fun k hk => hk.2.2.1)) (Kd.R_mono (Kd.R_bound (Kd.R_below (HG5.out) hb6)) (fun k hk => hk.2.2.1)) (Kd.R_nil _ _ _ _ _))
      clear hb6 HS5 HG5 HR5
      generalize hB1 : (w5.alloc (.cells #[.slice A5 rk.length c5, .int .i64 0, .slice none 0 0] 31)).heap.size = B1 at *
      clear hB1
      generalize (w5.alloc (.cells #[.slice A5 rk.length c5, .int .i64 0, .slice none 0 0] 31)) = w6 at *
      generalize w5.heap.size = ob at *
      go_wp2
      go_loopg [55] g.length (fun gg v55 wi => ∃ (q : Nat) (bv : Value) (Sm : Nat → Prop), q ≤ g.length ∧ g.length - q ≤ gg ∧ v55 = .int .i64 q ∧
        Aside0 (AS w wi [(w.heap.size, #[.int .i64 n, .int .i64 st, .slice A l.length c])] ob B1 (.slice A5 rk.length c5) (.slice Ag g.length cg) bv bv Sm rk g (auMoves rk of g q)))
      case atStart => exact ⟨0, _, _, by omega, by omega, rfl, HAS⟩
      case round =>
        clear HAS
        obtain ⟨q, bv, Sm, hqg, hgg, rfl, HAS⟩ := hrel
        by_cases hqt : q < g.length
        · have hqz : (q : Int) < (g.length : Int) := by omega
          obtain ⟨adg, Ay, cy, e0, hxy, hry⟩ := R_rowAt (HAS.out).hg q hqt
          cases e0
          have HLY := Aside0.mk hry
          clear hry
          have HTR := Aside0.mk (trow (HTAB.out).1 (show domS g q from ⟨by omega, by omega⟩))
          have HSC := Aside0.mk (auMoves_succ rk of g q)
          generalize Q.rd_L1 g (q : Int) = y at *
          go_upto_region 14 with ((with_reducible refine gate_dst (N := 62) rfl ?_); refine Kd.R_make kA2 B1 53 rfl (N := 62) rfl 49 _ _ rfl (rk.length : Int) rfl rfl Tryd.underlying49 (.slice none 0 0) 24 info79 rfl (by decide) (by omega) [] (ok := fun k => wr.heap.size ≤ k) (okp := fun _ => False) ⟨_, rfl, Kd.R_nil _ _ _ _ _⟩ (fun _ hk => hk.elim) (Nat.le_refl _) (by omega) (by omega) (w0 := wr) (below_base (Below.refl _ _) ((HAS.out).h1).2.2) ((HAS.out).h1).2.2 ?_; intro v7 w7 hr7 hb7 hg7 hnew7)
          rw [Int.toNat_natCast] at hr7
          obtain ⟨wb, hwb, _⟩ := hnew7
          obtain ⟨cw, hv7⟩ := R_formB hr7 hwb
          rw [List.length_replicate] at hv7
          subst hv7
          have HAL := Aside0.mk (AL.mk (lv := .slice none 0 0) (lst := []) (Sl := fun _ => False) ((HAS.out).bound.grown hg7 (fun k hk => by cases hk)) hr7 (Kd.R_nil _ _ _ _ _) (R_low HLY.out hg7 (fun k hk => by cases hk)) (fun k ha hb => Nat.lt_irrefl _ (Nat.lt_of_lt_of_le ha.2 hb)) (fun _ _ h => h) (fun _ _ h => h))
          clear hr7 hb7 hg7 hwb HAS hxy
          have HYL := Aside0.mk (HTR.out).1
          have HYR := Aside0.mk (HTR.out).2
          clear HTR
          have HGO := Aside0.mk (show ∀ f : Nat, f < rk.length → auGo of y q f < (g.length : Int) from fun f hf => by
            unfold auGo
            split
            · rename_i h
              obtain ⟨e, he⟩ : ∃ e : Nat, rd of f = e := ⟨(rd of f).toNat, by omega⟩
              have h2 := HOR.out f hf
              rw [he] at h2 ⊢
              exact ((HYR.out) _ (rd_mem (k := e) (by have := HYL.out; omega))).2
            · omega)
          go_wp2
          go_loopg [65] rk.length (fun gg2 v65 wi => ∃ (f : Nat) (Sm Sw : Nat → Prop), f ≤ rk.length ∧ rk.length - f ≤ gg2 ∧ v65 = .int .i64 f ∧
            Aside0 (AL w wi [(w.heap.size, #[.int .i64 n, .int .i64 st, .slice A l.length c])] ob B1 (.slice A5 rk.length c5) (.slice (some adg) g.length cg) bv bv rk g (auMoves rk of g q) (.slice Ay y.length cy) y (.slice (some ⟨wb, 0, none⟩) rk.length cw) (.slice none 0 0) Sm Sw (fun _ => False) (auRow rk of y q f ++ List.replicate (rk.length - f) []) []))
          case atStart => exact ⟨0, _, _, by omega, by omega, rfl, HAL⟩
          case round =>
            clear HAL Sm
            obtain ⟨f, Sm, Sw, hfl, hg2, rfl, HAL⟩ := hrel
            by_cases hft : f < rk.length
            · have hfz : (f : Int) < (rk.length : Int) := by omega
              obtain ⟨adr, e0, hxr⟩ := Kd.at_int (Kd.C_below HRK.out (HAL.out).hA.hb) (f : Int) (by omega) hfz
              cases e0
              obtain ⟨ado, e0, hxo⟩ := Kd.at_int (Kd.C_below HOF.out (HAL.out).hA.hb) (f : Int) (by omega) (by have := HLEN.out; omega)
              cases e0
              rw [Int.toNat_natCast] at hxr hxo
              have hfo : (f : Int) < (of.length : Int) := by have := HLEN.out; omega
              have HAF := Aside0.mk (show auAt rk of y q f = if auGo of y q f < 0 then [] else [needL (rd rk f) (auGo of y q f)] from rfl)
              have HRF := Aside0.mk (auRow_succ rk of y q f)
              have HRL := Aside0.mk (auRow_len rk of y q f)
              have hr4 := HRR.out f hft
              obtain ⟨r, hrn⟩ : ∃ r : Nat, rd rk (f : Int) = r := ⟨(rd rk f).toNat, by omega⟩
              rw [hrn] at hxr HAF hr4
              clear hrn
              have hor := HOR.out f hft
              have HGD := Aside0.mk (show auGo of y q f = if rd of f ≥ 0 then rd y (rd of f) else (q : Int) from rfl)
              have htt := HGO.out f hft
              generalize auGo of y q f = tt at *
              generalize rd of (f : Int) = e at *
              have HTT := Aside0.mk htt
              clear htt
              obtain ⟨hor1, hor2⟩ := hor
              go_upto_if 75 with (fail)
              go_cut [16] from 76 to 82 (fun s16 wx => s16 = .int .i64 tt ∧ wr = wx)
              case first =>
                by_cases he : e ≥ 0
                · obtain ⟨en, rfl⟩ : ∃ en : Nat, e = (en : Int) := ⟨e.toNat, by omega⟩
                  have hey : (en : Int) < (y.length : Int) := by have := HYL.out; omega
                  obtain ⟨ady, e0, hxy⟩ := Kd.at_int (Kd.R_reads' (HAL.out).hY).2.2 (en : Int) (by omega) hey
                  cases e0
                  rw [if_pos he] at HGD
                  rw [← HGD.out, Int.toNat_natCast] at hxy
                  go_wp2
                  go_meet
                  exact ⟨rfl, rfl⟩
                · rw [if_neg he] at HGD
                  go_wp2
                  go_meet
                  exact ⟨by rw [HGD.out], rfl⟩
              case rest =>
                obtain ⟨rfl, rfl⟩ := hcut
                clear hxr hxo
                by_cases ht : tt < 0
                · rw [if_pos ht] at HAF
                  go_wp2
                  go_roundg (rk.length - (f + 1))
                  case measure => omega
                  case rel =>
                    refine ⟨f + 1, Sm, Sw, by omega, by omega, by go_num, ?_⟩
                    rw [HRF.out, HAF.out]
                    have e : (auRow rk of y q f ++ List.replicate (rk.length - f) []) = (auRow rk of y q f ++ [[]]) ++ List.replicate (rk.length - (f + 1)) [] := by
                      rw [show rk.length - f = (rk.length - (f + 1)) + 1 from by omega, List.replicate_succ, List.append_assoc]; rfl
                    rw [← e]
                    exact HAL
                · rw [if_neg ht] at HAF
                  go_upto_region 22 with (fail)
                  have HAL1 := Aside0.mk (HAL.out).lit
                  clear HAL
                  go_wp2
                  go_loopg [17, 87] r (fun gg3 v17 v87 wi => ∃ (k : Nat) (Sm Sw Sl : Nat → Prop), k ≤ r ∧ r - k ≤ gg3 ∧ v87 = .int .i64 k ∧
                    Aside0 (AL w wi [(w.heap.size, #[.int .i64 n, .int .i64 st, .slice A l.length c])] ob B1 (.slice A5 rk.length c5) (.slice (some adg) g.length cg) bv bv rk g (auMoves rk of g q) (.slice Ay y.length cy) y (.slice (some ⟨wb, 0, none⟩) rk.length cw) v17 Sm Sw Sl (auRow rk of y q f ++ List.replicate (rk.length - f) []) (needTo k tt)))
                  case atStart => exact ⟨0, _, _, _, by omega, by omega, rfl, HAL1⟩
                  case round =>
                    clear HAL1 Sm Sw
                    obtain ⟨k, Sm, Sw, Sl, hkr, hg3, rfl, HAL⟩ := hrel
                    obtain ⟨A17, c17, rfl⟩ := Kd.R_slice (HAL.out).hL
                    by_cases hkt : k < r
                    · have hkz : (k : Int) < (r : Int) := by omega
                      have HNS := Aside0.mk (needTo_succ k tt)
                      have hnl := needTo_len k tt
                      generalize needTo k tt = lst at *
                      have hll : (lst.length + 1) * 16 ≤ 140737488355328 := by omega
                      clear hnl
                      go_wp2_with ((with_reducible refine gate_builtin (b := .append) (xs := #[.tmp 90, .tmp 94]) rfl ?_); at_builtin; refine Kd.R_append Q.k78 (w0 := wr) B1 rfl (.tmp 90) (.tmp 94) 50 52 (.agg #[.int .i64 0, .int .i64 0]) 16 rfl Tryd.underlying50 info78 rfl (by decide) (by omega) (.slice A17 lst.length c17) lst ⟨(k : Int), tt⟩ [.int .i64 (k : Int), .int .i64 tt] (fun k => Sl k ∨ wr.heap.size ≤ k) (fun _ => False) rfl rfl (Q.k78_mkM _ _ _ ⟨(k : Int), tt⟩) (fun _ hk => hk.elim) (fun k hk => .inr hk) (Kd.R_mono (HAL.out).hL (fun _ hk => .inl hk)) (below_base (Below.refl _ _) ((HAL.out).hA.h1).2.2) ((HAL.out).hA.h1).2.2 hll ?_; intro v5 w5 ho5 hb5 hg5 hat5; have HAL5 := Aside0.mk ((HAL.out).appL ho5 hg5); clear ho5 hb5 hg5 hat5 HAL)
                      go_roundg (r - (k + 1))
                      case measure => omega
                      case rel =>
                        refine ⟨k + 1, fun k => Sm k ∧ k < wr.heap.size, fun k => Sw k ∧ k < wr.heap.size, fun k => Sl k ∨ wr.heap.size ≤ k, by omega, by omega, by go_num, ?_⟩
                        rw [HNS.out]
                        exact HAL5
                    · have hkz : ¬ (k : Int) < (r : Int) := by omega
                      obtain rfl : k = r := by omega
                      have HNE := Aside0.mk (show auAt rk of y q f = [needTo k tt] from HAF.out)
                      have HNL := Aside0.mk (needTo_len k tt)
                      generalize needTo k tt = lst at *
                      have HST := Aside0.mk ((HAL.out).store f hft)
                      obtain ⟨u, hcu, hfu, hsu⟩ := R_cell1 (Kd.R_below (HAL.out).hW (below_alloc (Below.refl wr.heap.size wr) (.cells #[.slice A17 lst.length c17] 50))) f hft
                      clear HAL
                      go_wp2
                      clear hcu hfu hsu
                      go_roundg (rk.length - (f + 1))
                      case measure => omega
                      case rel =>
                        refine ⟨f + 1, fun k => Sm k ∧ k < wr.heap.size, fun k => (Sw k ∨ Sl k) ∨ k = wr.heap.size, by omega, by omega, by go_num, ?_⟩
                        rw [HRF.out, HNE.out, ← set_row HRL.out hft]
                        exact HST
            · have hfz : ¬ (f : Int) < (rk.length : Int) := by omega
              obtain rfl : f = rk.length := by omega
              rw [Nat.sub_self, List.replicate_zero, List.append_nil] at HAL
              have hml := auMoves_len rk of g q
              generalize auRow rk of y q rk.length = row at *
              generalize auMoves rk of g q = M at *
              obtain ⟨Am, cm, rfl⟩ := Kd.R_slice (HAL.out).hA.hM
              have hlo : (M.length + 1) * 24 ≤ 140737488355328 := by omega
              clear hml
              have hz2 : wr.cell? ⟨ob, 2, none⟩ = some (.slice Am M.length cm) := (blk_cell (HAL.out).hA.ho 2).trans rfl
              go_wp2_with ((with_reducible refine gate_builtin (b := .append) (xs := #[.tmp 104, .tmp 106]) rfl ?_); at_builtin; refine Kd.R_append kA3 (w0 := wr) B1 rfl (.tmp 104) (.tmp 106) 29 49 (.slice none 0 0) 24 rfl Tryd.underlying29 info75 rfl (by decide) (by omega) (.slice Am M.length cm) M row [.slice (some ⟨wb, 0, none⟩) rk.length cw] (fun k => (Sm k ∨ Sw k) ∨ wr.heap.size ≤ k) Sw rfl rfl ⟨_, rfl, (HAL.out).hW⟩ (fun k hk => ⟨.inl (.inr hk), fun he => (HAL.out).dmw k ((HAL.out).hA.hM.1 k he.symm) hk⟩) (fun k hk => .inr hk) (Kd.R_mono (HAL.out).hA.hM (fun _ hk => .inl (.inl hk))) (below_base (Below.refl _ _) ((HAL.out).hA.h1).2.2) ((HAL.out).hA.h1).2.2 hlo ?_; intro v5 w5 ho5 hb5 hg5 hat5; have HP5 := Aside0.mk ((HAL.out).hA.appM ho5 hg5); clear ho5 hb5 hg5 hat5 HAL hz2; (obtain ⟨A6, c6, e6⟩ := Kd.R_slice (HP5.out).hM); rw [List.length_append, List.length_singleton] at e6; subst e6; have hcl : w5.cell? ⟨ob, 2, none⟩ = some (.slice Am M.length cm) := (blk_cell (HP5.out).ho 2).trans rfl; have hfz : w5.frozen? ⟨ob, 2, none⟩ = false := blk_frozen (HP5.out).ho 2)
              have HP6 := Aside0.mk ((HP5.out).put (.slice A6 (M.length + 1) c6))
              go_roundg (g.length - (q + 1))
              case measure => omega
              case rel =>
                refine ⟨q + 1, .slice A6 (M.length + 1) c6, fun k => (Sm k ∨ Sw k) ∨ wr.heap.size ≤ k, by omega, by omega, by go_num, ?_⟩
                rw [HSC.out]
                exact HP6
        · have hqz : ¬ (q : Int) < (g.length : Int) := by omega
          obtain rfl : q = g.length := by omega
          obtain ⟨Am, cm, rfl⟩ := Kd.R_slice (HAS.out).hM
          have hz0 : wr.cell? ⟨ob, 0, none⟩ = some (.slice A5 rk.length c5) := (blk_cell (HAS.out).ho 0).trans rfl
          have hz1 : wr.cell? ⟨ob, 1, none⟩ = some (.int .i64 0) := (blk_cell (HAS.out).ho 1).trans rfl
          have hz2 : wr.cell? ⟨ob, 2, none⟩ = some (.slice Am (auMoves rk of g g.length).length cm) := (blk_cell (HAS.out).ho 2).trans rfl
          have hc0 : wr.cell? ⟨w.heap.size + 1, 0, none⟩ = some (.slice none 0 0) := (blk_cell (HAS.out).hr 0).trans rfl
          have hc1 : wr.cell? ⟨w.heap.size + 1, 1, none⟩ = some (.int .i64 0) := (blk_cell (HAS.out).hr 1).trans rfl
          have hc2 : wr.cell? ⟨w.heap.size + 1, 2, none⟩ = some (.slice none 0 0) := (blk_cell (HAS.out).hr 2).trans rfl
          have hf0 := blk_frozen (HAS.out).hr 0
          have hf1 := blk_frozen (HAS.out).hr 1
          have hf2 := blk_frozen (HAS.out).hr 2
          go_wp2
          refine bodyPost_ret (results_row_tmp rfl _ _ (w.heap.size + 1) 31 #[.slice A5 rk.length c5, .int .i64 0, .slice Am (auMoves rk of g g.length).length cm] (0, 0) _ rfl ((HAS.out).fin _ _ _).1 Tryd.underlying31 rfl (by kernel_rfl)) rfl ?_
          obtain ⟨e1, e2, e3⟩ := HEE.out
          rw [e1, e2, e3]
          exact ⟨A5, Am, c5, cm, _, _, rfl, ((HAS.out).fin _ _ _).2.1, ((HAS.out).fin _ _ _).2.2.1, ((HAS.out).fin _ _ _).2.2.2⟩
end Go.Proofs.YtmphigeefppfpaaDoor.H
namespace Go.Proofs.YtmphigeefppfpaaDoor.H
open Go.RowKit Go.Proofs.YtmphigeefppfpaaDoorW.PrintWords Go.Proofs.YtmphigeefppfpaaDoorW.PrintLast Go.Proofs.YtmphigeefppfpaaDoorW.PrintMore
set_option linter.unusedVariables false
theorem sauto_calls (ev st : Int) (A : Option Addr) (c : Nat) (l : List (List Int)) (A1 A2 : Option Addr) (c1 c2 : Nat) (rk of : List Int) (w : World) (hr : Kd.C (Kd.slice 3 (Kd.int .i64)) w A l.length l)
    (hr1 : Kd.C (Kd.int .i64) w A1 rk.length rk) (hc1 : rk.length ≤ c1) (hr2 : Kd.C (Kd.int .i64) w A2 of.length of) :
    Calls Tryd.prog 4 #[.agg #[.int .i64 ev, .int .i64 st, .slice A l.length c], .slice A1 rk.length c1, .slice A2 of.length c2] w (AuEnd (auErr ev st l rk of) (auRk ev st l rk of) (auM ev st l rk of) w) := by
  cases hs : specOk ev st l with
  | false =>
    have h := sauto_bad ev st A c l A1 A2 c1 c2 rk of w hr hr1 hc1 hr2 hs
    rwa [show auErr ev st l rk of = 11 from by simp [auErr, hs], show auRk ev st l rk of = [] from by simp [auRk, auErr, hs], show auM ev st l rk of = [] from by simp [auM, auErr, hs]]
  | true =>
    cases ha : auArgs ev rk of with
    | false =>
      have h := sauto_args ev st A c l A1 A2 c1 c2 rk of w hr hr1 hc1 hr2 hs ha
      rwa [show auErr ev st l rk of = 2 from by simp [auErr, hs, ha], show auRk ev st l rk of = [] from by simp [auRk, auErr, hs, ha], show auM ev st l rk of = [] from by simp [auM, auErr, hs, ha]]
    | true => exact sauto_go ev st A c l A1 A2 c1 c2 rk of w hr hr1 hc1 hr2 hs ha
section
variable {w W W1 W5 W6 : World} {va vb : Array Value} {ob lb B1 : Nat} {rv gv mv bv wv lv tv wv1 yv : Value} {Sm Sw Sl St Sg : Nat → Prop} {rk y : List Int} {g : List (List Int)} {M : List (List (List (List Q.S78)))} {row : List (List (List Q.S78))} {lst : List Q.S78} {alts : List (List Q.S78)} {bs : List (Nat × Array Value)}
theorem AL.start (h : AS w W bs ob B1 rv gv mv bv Sm rk g M) : AL w W bs ob B1 rv gv mv bv rk g M rv rk (.slice none 0 0) (.slice none 0 0) Sm (fun _ => False) (fun _ => False) [] [] :=
  ⟨h, Kd.R_nil _ _ _ _ _, Kd.R_nil _ _ _ _ _, h.hRk, fun _ _ h => h, fun _ _ h => h, fun _ _ h => h⟩
end
end Go.Proofs.YtmphigeefppfpaaDoor.H
