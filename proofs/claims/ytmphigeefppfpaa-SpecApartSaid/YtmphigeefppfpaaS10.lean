/- What specApart_calls needs, out of my texts, by a program (slim.py). -/
import Derived.Test.YtmphigeefppfpaaProg
import Derived.Below
import Derived.Deep.Draws
import Derived.Deep.AppendLies
import Derived.Maps.AppendAt
import Derived.OwnWalk
import Derived.Laws.BytesArg
import Derived.Laws.MakeOwn
import Derived.Laws.OwnMore
import Derived.Deep.OwnRows
import Derived.Tactics
import Derived.Lib.ConvBytes
import Derived.Laws.Slices
import Derived.WalkKit
import Derived.KernelRfl
import Derived.RowKit3
import Derived.Deep.LoopGhost
import Derived.Deep.QuietTactic
import Derived.BigQuiet
import Derived.WideLaws
import Derived.Deep.DeepCutAuto
import Derived.Deep.CutBlock
import Derived.Deep.RegionHeld3
import Derived.Laws.Rows
import Derived.Lib.AppendStr
import Derived.ArgAppend
import Derived.Laws.IdiomCopy
import Derived.OrdersHeld
import Derived.Laws.BitsLemmas
import Derived.RowKit
import Derived.Test.YtmphigeefppfpaaWWords
import Derived.Test.YtmphigeefppfpaaWLast
import Derived.Test.YtmphigeefppfpaaWTab
import Derived.Test.YtmphigeefppfpaaWFour
import Derived.Test.YtmphigeefppfpaaWQPut
import Derived.Test.YtmphigeefppfpaaWApart
import Derived.Test.YtmphigeefppfpaaWArr
import Derived.Test.YtmphigeefppfpaaWZeros
import Derived.Test.YtmphigeefppfpaaWFoot
import Derived.Test.YtmphigeefppfpaaWKept
import Derived.Test.YtmphigeefppfpaaWShare
import Derived.Test.YtmphigeefppfpaaWN
import Derived.Test.YtmphigeefppfpaaWFootNe
import Derived.Test.YtmphigeefppfpaaWAt
import Derived.Test.YtmphigeefppfpaaWEqStruct
import Derived.Test.YtmphigeefppfpaaWRepsOne
import Derived.Test.YtmphigeefppfpaaWInv
import Derived.Test.YtmphigeefppfpaaWInvWords
import Derived.Test.YtmphigeefppfpaaWGuard
import Derived.Test.YtmphigeefppfpaaWNEv
import Derived.Test.YtmphigeefppfpaaWMore
import Derived.Maps.OwnSet
import Derived.DeepKeys4
import Derived.Laws.ResultCell
import Derived.RegionTactic
import Derived.ChangeAlike
import Derived.ChangeKeysEq
import Derived.Laws.StructEq
import Derived.Deep.RegionLaw
namespace Go.Proofs.Ytmphigeefppfpaa.Q
open Go.RowKit Go.Proofs.YtmphigeefppfpaaW.PrintWords Go.Proofs.YtmphigeefppfpaaW.PrintLast Go.Proofs.YtmphigeefppfpaaW.PrintMore
attribute [local go_sem] max2_int min2_int max_two min_two max_three min_three max_four min_four   -- for this text's walks alone
set_option linter.unusedVariables false
set_option linter.unusedSimpArgs false
def errW : Option Int → Value
  | none => .nilIface
  | some c => .iface 0 (.int .i64 c)
theorem errW_none : errW none = .nilIface := rfl
theorem errW_some (c : Int) : errW (some c) = .iface 0 (.int .i64 c) := rfl
theorem info3 : (Try.prog.info? 3).map (fun i => (i.zero, i.size, i.bytes)) = some (some (.int .i64 0), 1, 8) := by kernel_rfl
def rd_L1 (xs : List (List Int)) (i : Int) : (List Int) := xs.getD i.toNat ([] : List Int)
theorem at_L1 {w : World} {A : Option Addr} {n : Nat} {xs : List (List Int)} (h : Kd.C (Kd.slice 3 (Kd.int .i64)) w A n xs) (i : Int) (h0 : 0 ≤ i) (h1 : i < n) : ∃ ad A0 c0, A = some ad ∧ w.cell? (ad.add i.toNat) = some (.slice A0 (rd_L1 xs i).length c0) ∧ (rd_L1 xs i).length ≤ c0 ∧ (Kd.int .i64).C w A0 (rd_L1 xs i).length (rd_L1 xs i) := by
  obtain ⟨ad, c, e, _, hK, hc0⟩ := Kd.C_get h ([] : List Int) i h0 h1
  have hc : ∀ j u, c[j]? = some u → w.cell? (ad.add (i.toNat * 1 + j)) = some u := hc0
  obtain ⟨A0, c0, rfl, l0, g0⟩ := hK
  exact ⟨ad, A0, c0, e, by have hq := hc 0 _ rfl; rwa [Nat.mul_one, Nat.add_zero] at hq, l0, g0⟩
end Go.Proofs.Ytmphigeefppfpaa.Q
namespace Go.Proofs.Ytmphigeefppfpaa.H
open Go.RowKit Go.Proofs.YtmphigeefppfpaaW.PrintWords Go.Proofs.YtmphigeefppfpaaW.PrintLast Go.Proofs.YtmphigeefppfpaaW.PrintMore
/-- A predicate handed over: at every x of dom, in every world that keeps what lay in w. -/
def PredW (g : Nat) (lb : Array Value) (enc : Int → Value) (dom : Int → Prop) (p : Int → Bool) (w : World) : Prop :=
  ∀ (W : World) (x : Int), Below w.heap.size w W → dom x → Calls Try.prog g (#[enc x] ++ lb) W fun e w' => e = .returned (.bool (p x)) ∧ Below W.heap.size W w'
theorem any_of_at {p : Int → Bool} {xs : List Int} {k : Nat} (h : k < xs.length) (hp : p (rd xs k) = true) : xs.any p = true := by
  refine List.any_eq_true.2 ⟨xs[k], List.getElem_mem h, ?_⟩
  have : rd xs (k : Int) = xs[k] := by simp [rd, List.getD_eq_getElem?_getD, List.getElem?_eq_getElem h]
  rw [← this]; exact hp
theorem any_of_none {p : Int → Bool} {xs : List Int} (h : ∀ j : Nat, j < xs.length → p (rd xs j) = false) : xs.any p = false := by
  refine List.any_eq_false.2 fun x hx => ?_
  obtain ⟨j, hj, rfl⟩ := List.getElem_of_mem hx
  have h2 := h j hj
  have : rd xs (j : Int) = xs[j] := by simp [rd, List.getD_eq_getElem?_getD, List.getElem?_eq_getElem hj]
  rw [this] at h2
  simp [h2]
theorem rd_mem {xs : List Int} {k : Nat} (h : k < xs.length) : rd xs (k : Int) ∈ xs := by
  have : rd xs (k : Int) = xs[k] := by simp [rd, List.getD_eq_getElem?_getD, List.getElem?_eq_getElem h]
  rw [this]; exact List.getElem_mem h
set_option maxHeartbeats 2000000 in
theorem indexFunc_calls (A : Option Addr) (c : Nat) (xs : List Int) (g : Nat) (lb : Array Value) (dom : Int → Prop) (p : Int → Bool) (w : World)
    (hr : Kd.C (Kd.int .i64) w A xs.length xs) (hd : ∀ x ∈ xs, dom x) (hp : PredW g lb (Value.int .i64) dom p w)
    (eg : ∀ args w, (callFunc g args).run Try.prog w = .ok (.enter g args) w) :
    Calls Try.prog 62 #[.slice A xs.length c, .func (.func g) #[] lb] w fun e w' => ∃ r : Int, e = .returned (.int .i64 r) ∧ decide (r ≥ 0) = xs.any p ∧ Below w.heap.size w w' := by
  have HR := Aside0.mk hr
  have HP := Aside0.mk hp
  have HD := Aside0.mk hd
  have hm := hr.2.1
  clear hr hp hd
  go_enter Try.func62, Try.ntmps62
  go_wp2
  go_loopg [5, 8] xs.length (fun gg _ s8 wr => ∃ kk : Nat, kk ≤ xs.length ∧ xs.length - kk ≤ gg ∧ s8 = .int .i64 kk ∧ Aside0 (Below w.heap.size w wr) ∧ Aside0 (∀ j : Nat, j < kk → p (rd xs j) = false))
  case atStart => exact ⟨0, Nat.zero_le _, by omega, rfl, ⟨Below.refl _ w⟩, ⟨fun j hj => absurd hj (Nat.not_lt_zero _)⟩⟩
  case round =>
    obtain ⟨kk, hkk, hg, rfl, BW, HA⟩ := hrel
    by_cases hlt : kk < xs.length
    · have hltz : (kk : Int) < (xs.length : Int) := by omega
      obtain ⟨ad, e0, hx⟩ := Kd.at_int (HR.out) (kk : Int) (by omega) hltz
      rw [Int.toNat_natCast] at hx
      cases e0
      have hx' := pw_cell_below BW.out hx
      clear hx
      have hcall := HP.out wr (rd xs kk) BW.out (HD.out _ (rd_mem hlt))
      generalize hy : rd xs (kk : Int) = y at hx' hcall
      have HY := Aside0.mk hy
      clear hy
      cases hq : p y with
      | true =>
        rw [hq] at hcall
        have HQ := Aside0.mk hq
        clear hq
        go_wp2_with fail
        refine hcall.mono ?_
        rintro e w' ⟨rfl, hb'⟩
        have HB' := Aside0.mk hb'
        clear hb' hcall
        go_wp2
        go_ret
        refine ⟨(kk : Int), rfl, ?_, below_then BW.out (BW.out).size HB'.out⟩
        rw [any_of_at (k := kk) (by assumption) (by rw [HY.out]; exact HQ.out)]
        simp
      | false =>
        rw [hq] at hcall
        have HQ := Aside0.mk hq
        clear hq
        go_wp2_with fail
        refine hcall.mono ?_
        rintro e w' ⟨rfl, hb'⟩
        have HB' := Aside0.mk hb'
        clear hb' hcall
        go_wp2
        go_roundg (xs.length - (kk + 1))
        case measure => omega
        case rel =>
          refine ⟨kk + 1, by omega, by omega, by go_num, ⟨below_then BW.out (BW.out).size HB'.out⟩, ⟨fun j hj => ?_⟩⟩
          by_cases e : j = kk
          · subst e
            rw [HY.out]; exact HQ.out
          · exact HA.out j (by omega)
    · have hltz : ¬ (kk : Int) < (xs.length : Int) := by omega
      go_wp2
      go_ret
      refine ⟨-1, rfl, ?_, BW.out⟩
      rw [any_of_none (fun j hj => HA.out j (by omega))]
      rfl
set_option maxHeartbeats 2000000 in
theorem containsFunc_calls (A : Option Addr) (c : Nat) (xs : List Int) (g : Nat) (lb : Array Value) (dom : Int → Prop) (p : Int → Bool) (w : World)
    (hr : Kd.C (Kd.int .i64) w A xs.length xs) (hd : ∀ x ∈ xs, dom x) (hp : PredW g lb (Value.int .i64) dom p w)
    (eg : ∀ args w, (callFunc g args).run Try.prog w = .ok (.enter g args) w) :
    Calls Try.prog 38 #[.slice A xs.length c, .func (.func g) #[] lb] w fun e w' => e = .returned (.bool (xs.any p)) ∧ Below w.heap.size w w' := by
  have H := (indexFunc_calls A c xs g lb dom p w hr hd hp eg)
  clear hr hd hp
  go_enter Try.func38, Try.ntmps38
  go_wp2_with fail
  refine H.mono ?_
  rintro e w' ⟨r, rfl, hq, hb⟩
  have HQ := Aside0.mk hq
  have HB := Aside0.mk hb
  clear hq hb H
  go_wp2
  go_ret
  exact ⟨by rw [← HQ.out]; rfl, HB.out⟩
/-- spec.Check$1: q < -1 || q >= n, with n in a cell. -/
theorem check1_calls (x n : Int) (b : Addr) (w : World) (hc : w.cell? b = some (.int .i64 n)) :
    Calls Try.prog 40 #[.int .i64 x, .pointer (some b)] w fun e w' => e = .returned (.bool (decide (x < -1) || decide (x ≥ n))) ∧ Below w.heap.size w w' := by
  by_cases h1 : x < -1
  · have h2 : decide (x < -1) = true := by simpa using h1
    have H2 := Aside0.mk h2
    clear h1
    go_enter Try.func40, Try.ntmps40
    go_wp2
    repeat (go_quiet (fail); try go_wp2)
    go_ret
    exact ⟨by rw [H2.out]; rfl, Below.refl _ _⟩
  · have h2 : decide (x < -1) = false := by simpa using h1
    have H2 := Aside0.mk h2
    clear h1
    go_enter Try.func40, Try.ntmps40
    go_wp2
    repeat (go_quiet (fail); try go_wp2)
    go_ret
    exact ⟨by rw [H2.out, Bool.false_or]; rfl, Below.refl _ _⟩
/-- Check's own head. -/
def headOk (ev st : Int) (n : Nat) : Bool := decide (0 ≤ ev) && decide (ev ≤ 16) && decide (1 ≤ n) && decide (n ≤ 64) && decide (0 ≤ st) && decide (st < (n : Int))
def rowOk (ev : Int) (n : Nat) (r : List Int) : Bool := decide ((r.length : Int) = ev) && r.all fun q => decide (-1 ≤ q) && decide (q < (n : Int))
def specOk (ev st : Int) (l : List (List Int)) : Bool := headOk ev st l.length && l.all (rowOk ev l.length)
theorem headOk_false {ev st : Int} {n : Nat} (h : headOk ev st n = false) : ev < 0 ∨ (¬ ev < 0 ∧ ev > 16) ∨ (¬ ev < 0 ∧ ¬ ev > 16 ∧ (n : Int) < 1) ∨ (¬ ev < 0 ∧ ¬ ev > 16 ∧ ¬ (n : Int) < 1 ∧ (n : Int) > 64) ∨ (¬ ev < 0 ∧ ¬ ev > 16 ∧ ¬ (n : Int) < 1 ∧ ¬ (n : Int) > 64 ∧ st < 0) ∨ (¬ ev < 0 ∧ ¬ ev > 16 ∧ ¬ (n : Int) < 1 ∧ ¬ (n : Int) > 64 ∧ ¬ st < 0 ∧ st ≥ (n : Int)) := by
  simp only [headOk, Bool.and_eq_false_iff, decide_eq_false_iff_not] at h
  omega
theorem headOk_true {ev st : Int} {n : Nat} (h : headOk ev st n = true) : ¬ ev < 0 ∧ ¬ ev > 16 ∧ ¬ (n : Int) < 1 ∧ ¬ (n : Int) > 64 ∧ ¬ st < 0 ∧ ¬ st ≥ (n : Int) := by
  simp only [headOk, Bool.and_eq_true, decide_eq_true_eq] at h
  omega
theorem check_bad (ev st : Int) (A : Option Addr) (c : Nat) (l : List (List Int)) (w : World) (h : headOk ev st l.length = false) :
    Calls Try.prog 17 #[.agg #[.int .i64 ev, .int .i64 st, .slice A l.length c]] w fun e w' => e = .returned (.int .i64 11) ∧ Below w.heap.size w w' := by
  rcases headOk_false h with h0 | ⟨h0, h1⟩ | ⟨h0, h1, h2⟩ | ⟨h0, h1, h2, h3⟩ | ⟨h0, h1, h2, h3, h4⟩ | ⟨h0, h1, h2, h3, h4, h5⟩
  all_goals
    clear h
    go_enter Try.func17, Try.ntmps17
    go_wp2
    go_ret
    exact ⟨rfl, by repeat (first | exact Below.refl _ _ | apply below_alloc | apply pw_below_drewN | apply below_drew1)⟩
theorem rowOk_any (ev : Int) (n : Nat) (r : List Int) (h : (r.length : Int) = ev) : rowOk ev n r = !(r.any fun q => decide (q < -1) || decide (q ≥ (n : Int))) := by
  simp only [rowOk, h, decide_true, Bool.true_and, List.all_eq_not_any_not]
  congr 2
  funext q
  rw [Bool.eq_iff_iff]
  simp
theorem all_of_at {α : Type} {p : α → Bool} {xs : List α} (d : α) (h : ∀ j : Nat, j < xs.length → p (xs.getD j d) = true) : xs.all p = true := by
  refine List.all_eq_true.2 fun x hx => ?_
  obtain ⟨j, hj, rfl⟩ := List.getElem_of_mem hx
  have h2 := h j hj
  rwa [List.getD_eq_getElem?_getD, List.getElem?_eq_getElem hj] at h2
theorem all_of_none {α : Type} {p : α → Bool} {xs : List α} (d : α) {j : Nat} (hj : j < xs.length) (h : p (xs.getD j d) = false) : xs.all p = false := by
  refine List.all_eq_false.2 ⟨xs[j], List.getElem_mem hj, ?_⟩
  rw [List.getD_eq_getElem?_getD, List.getElem?_eq_getElem hj] at h
  simpa using h
theorem blk_at2 (w : World) (o o' : Obj) : ((w.alloc o).alloc o').heap[w.heap.size + 1]? = some o' := by
  have h := blk_new (w.alloc o) o'
  rwa [show (w.alloc o).heap.size = w.heap.size + 1 from by simp] at h
theorem run_mkfun (fn : Fn) (first cap : Array Value) (w : World) : (Instr.makeFunc fn first cap).run Try.prog w = .ok (.func fn first cap) w := rfl
theorem check1_pred (n : Int) (b : Addr) (w : World) (hc : w.cell? b = some (.int .i64 n)) : PredW 40 #[.pointer (some b)] (Value.int .i64) (fun _ => True) (fun q => decide (q < -1) || decide (q ≥ n)) w :=
  fun _ x hb _ => check1_calls x n b _ (pw_cell_below hb hc)
/-- What Check says of a specification whose head is good. -/
def checkRes (ev : Int) (l : List (List Int)) : Int := if l.all (rowOk ev l.length) then 0 else 11
set_option maxHeartbeats 2000000 in
theorem check_good (ev st : Int) (A : Option Addr) (c : Nat) (l : List (List Int)) (w : World) (hr : Kd.C (Kd.slice 3 (Kd.int .i64)) w A l.length l) (h : headOk ev st l.length = true) :
    Calls Try.prog 17 #[.agg #[.int .i64 ev, .int .i64 st, .slice A l.length c]] w fun e w' => e = .returned (.int .i64 (checkRes ev l)) ∧ Below w.heap.size w w' := by
  obtain ⟨h0, h1, h2, h3, h4, h5⟩ := headOk_true h
  have HR := Aside0.mk hr
  have hm := hr.2.1
  have hmf := run_mkfun
  clear h hr
  go_enter Try.func17, Try.ntmps17
  go_wp2
  go_loopg [39] l.length (fun gg v39 wr => ∃ kk : Nat, kk ≤ l.length ∧ l.length - kk ≤ gg ∧ v39 = .int .i64 kk ∧ Aside0 (Below w.heap.size w wr) ∧ Aside0 (wr.heap[w.heap.size]? = some (.cells #[.int .i64 ev, .int .i64 st, .slice A l.length c] 24 (0, 0))) ∧ Aside0 (wr.heap[w.heap.size + 1]? = some (.cells #[.int .i64 (l.length : Int)] 3 (0, 0))) ∧ Aside0 (∀ j : Nat, j < kk → rowOk ev l.length (l.getD j []) = true))
  case atStart => exact ⟨0, Nat.zero_le _, by omega, rfl, ⟨by repeat (first | exact Below.refl _ _ | apply below_alloc | apply pw_below_drewN | apply below_drew1)⟩, ⟨blk_alloc (blk_new _ _) _⟩, ⟨blk_at2 _ _ _⟩, ⟨fun j hj => absurd hj (Nat.not_lt_zero _)⟩⟩
  case round =>
    obtain ⟨kk, hkk, hg, rfl, BW, HX, HN, HA⟩ := hrel
    by_cases hlt : kk < l.length
    · have hltz : (kk : Int) < (l.length : Int) := by omega
      obtain ⟨ad, A0, c0, e0, hx, hl0, hr0⟩ := Q.at_L1 (Kd.C_below HR.out BW.out) (kk : Int) (by omega) hltz
      cases e0
      rw [Int.toNat_natCast] at hx
      have HRow := Aside0.mk hr0
      clear hr0
      have hz0 : wr.cell? ⟨w.heap.size, 0, none⟩ = some (.int .i64 ev) := (blk_cell HX.out 0).trans rfl
      generalize hy : Q.rd_L1 l (kk : Int) = y at hx HRow hl0
      have HY := Aside0.mk (show l.getD kk [] = y by rw [← hy]; simp [Q.rd_L1])
      clear hy
      by_cases hlen : (y.length : Int) = ev
      · have d0 : ((y.length : Int) == ev) = true := beq_iff_eq.2 hlen
        have d1 : ((y.length : Int) != ev) = false := bne_eq_false_iff_eq.2 hlen
        have HL := Aside0.mk hlen
        have hnn : wr.cell? ⟨w.heap.size + 1, 0, none⟩ = some (.int .i64 (l.length : Int)) := (blk_cell HN.out 0).trans rfl
        have HC := Aside0.mk (containsFunc_calls A0 c0 y 40 #[.pointer (some ⟨w.heap.size + 1, 0, none⟩)] (fun _ => True) _ wr HRow.out (fun _ _ => trivial) (check1_pred _ _ _ hnn) (fun _ _ => rfl))
        clear hlen hnn
        have HRO := Aside0.mk (rowOk_any ev l.length y HL.out)
        cases hq : (y.any fun q => decide (q < -1) || decide (q ≥ (l.length : Int))) with
        | true =>
          rw [hq] at HC HRO
          clear hq
          go_wp2_with fail
          refine HC.out.mono ?_
          rintro e w' ⟨rfl, hb'⟩
          have HB' := Aside0.mk hb'
          clear hb' HC
          go_wp2
          go_ret
          refine ⟨?_, below_then BW.out (BW.out).size HB'.out⟩
          rw [checkRes, all_of_none [] (by assumption) (by rw [HY.out, HRO.out]; rfl)]
          rfl
        | false =>
          rw [hq] at HC HRO
          clear hq
          go_wp2_with fail
          refine HC.out.mono ?_
          rintro e w' ⟨rfl, hb'⟩
          have HB' := Aside0.mk hb'
          clear hb' HC
          go_wp2
          go_roundg (l.length - (kk + 1))
          case measure => omega
          case rel =>
            refine ⟨kk + 1, by omega, by omega, by go_num, ⟨below_then BW.out (BW.out).size HB'.out⟩, ⟨blk_below HX.out HB'.out⟩, ⟨blk_below HN.out HB'.out⟩, ⟨fun j hj => ?_⟩⟩
            by_cases e : j = kk
            · subst e
              rw [HY.out]; exact HRO.out
            · exact HA.out j (by omega)
      · have d0 : ((y.length : Int) == ev) = false := beq_eq_false_iff_ne.2 hlen
        have d1 : ((y.length : Int) != ev) = true := bne_iff_ne.2 hlen
        have HL := Aside0.mk hlen
        clear hlen
        go_wp2
        go_ret
        refine ⟨?_, BW.out⟩
        rw [checkRes, all_of_none [] (by assumption) (by rw [HY.out, rowOk, decide_eq_false HL.out]; rfl)]
        rfl
    · have hltz : ¬ (kk : Int) < (l.length : Int) := by omega
      go_wp2
      go_ret
      refine ⟨?_, BW.out⟩
      rw [checkRes, all_of_at [] (fun j hj => HA.out j (by omega))]
      rfl
/-- Check, whatever the specification. -/
def checkVal (ev st : Int) (l : List (List Int)) : Int := if specOk ev st l then 0 else 11
theorem check_calls (ev st : Int) (A : Option Addr) (c : Nat) (l : List (List Int)) (w : World) (hr : Kd.C (Kd.slice 3 (Kd.int .i64)) w A l.length l) :
    Calls Try.prog 17 #[.agg #[.int .i64 ev, .int .i64 st, .slice A l.length c]] w fun e w' => e = .returned (.int .i64 (checkVal ev st l)) ∧ Below w.heap.size w w' := by
  cases h : headOk ev st l.length with
  | true =>
    rw [show checkVal ev st l = checkRes ev l from by simp [checkVal, checkRes, specOk, h]]
    exact check_good ev st A c l w hr h
  | false =>
    rw [show checkVal ev st l = 11 from by simp [checkVal, specOk, h]]
    exact check_bad ev st A c l w h
def stepAt (l : List (List Int)) (q x : Int) : Int := rd (Q.rd_L1 l q) x
/-- The state behind a word, and how many of its events were allowed. -/
def readFrom (l : List (List Int)) : Int → Nat → List Int → Int × Nat
  | q, i, [] => (q, i)
  | q, i, x :: xs => if stepAt l q x < 0 then (-1, i) else readFrom l (stepAt l q x) (i + 1) xs
def evBad (ev x : Int) : Bool := decide (x < 0) || decide (x ≥ ev)
theorem specOk_head {ev st : Int} {l : List (List Int)} (h : specOk ev st l = true) : headOk ev st l.length = true := by
  simp only [specOk, Bool.and_eq_true] at h; exact h.1
theorem specOk_row {ev st : Int} {l : List (List Int)} (h : specOk ev st l = true) {q : Int} (h0 : 0 ≤ q) (h1 : q < l.length) : (((Q.rd_L1 l q).length : Int) = ev) ∧ ∀ x ∈ Q.rd_L1 l q, -1 ≤ x ∧ x < l.length := by
  simp only [specOk, Bool.and_eq_true, List.all_eq_true] at h
  have hq : q.toNat < l.length := by omega
  have h2 := h.2 (Q.rd_L1 l q) (by simp [Q.rd_L1, List.getD_eq_getElem?_getD, List.getElem?_eq_getElem hq])
  simp only [rowOk, Bool.and_eq_true, decide_eq_true_eq, List.all_eq_true] at h2
  exact h2
theorem rd_mem' {xs : List Int} {x : Int} (h0 : 0 ≤ x) (h : x < xs.length) : rd xs x ∈ xs := by
  have hq : x.toNat < xs.length := by omega
  simp [rd, List.getD_eq_getElem?_getD, List.getElem?_eq_getElem hq]
theorem stepAt_range {ev st : Int} {l : List (List Int)} (h : specOk ev st l = true) {q x : Int} (h0 : 0 ≤ q) (h1 : q < l.length) (hx0 : 0 ≤ x) (hx1 : x < ev) : -1 ≤ stepAt l q x ∧ stepAt l q x < l.length := by
  obtain ⟨hl, hm⟩ := specOk_row h h0 h1
  exact hm _ (rd_mem' hx0 (by omega))
theorem read1_calls (x ev : Int) (b : Nat) (w : World) (hc : w.cell? ⟨b, 0, none⟩ = some (.int .i64 ev)) :
    Calls Try.prog 39 #[.int .i64 x, .pointer (some ⟨b, 0, none⟩)] w fun e w' => e = .returned (.bool (evBad ev x)) ∧ Below w.heap.size w w' := by
  by_cases h1 : x < 0
  · have h2 : decide (x < 0) = true := by simpa using h1
    have H2 := Aside0.mk h2
    clear h1
    go_enter Try.func39, Try.ntmps39
    go_wp2
    repeat (go_quiet (fail); try go_wp2)
    go_ret
    exact ⟨by rw [evBad, H2.out]; rfl, Below.refl _ _⟩
  · have h2 : decide (x < 0) = false := by simpa using h1
    have H2 := Aside0.mk h2
    clear h1
    go_enter Try.func39, Try.ntmps39
    go_wp2
    repeat (go_quiet (fail); try go_wp2)
    go_ret
    exact ⟨by rw [evBad, H2.out, Bool.false_or]; rfl, Below.refl _ _⟩
theorem read1_pred (ev : Int) (b : Nat) (w : World) (hc : w.cell? ⟨b, 0, none⟩ = some (.int .i64 ev)) : PredW 39 #[.pointer (some ⟨b, 0, none⟩)] (Value.int .i64) (fun _ => True) (evBad ev) w :=
  fun _ x hb _ => read1_calls x ev b _ (pw_cell_below hb hc)
def readVal (ev st : Int) (l : List (List Int)) (xs : List Int) : Int × Int × Int :=
  if specOk ev st l = false then (0, 0, 11) else if xs.length > 4096 then (0, 0, 3) else if xs.any (evBad ev) then (0, 0, 2) else ((readFrom l st 0 xs).1, ((readFrom l st 0 xs).2 : Int), 0)
set_option maxHeartbeats 1000000 in
theorem read_bad (ev st : Int) (A : Option Addr) (c : Nat) (l : List (List Int)) (A1 : Option Addr) (c1 : Nat) (xs : List Int) (w : World) (hr : Kd.C (Kd.slice 3 (Kd.int .i64)) w A l.length l) (h : specOk ev st l = false) :
    Calls Try.prog 14 #[.agg #[.int .i64 ev, .int .i64 st, .slice A l.length c], .slice A1 xs.length c1] w fun e w' => e = .returned (.tuple #[.int .i64 0, .int .i64 0, .int .i64 11]) ∧ Below w.heap.size w w' := by
  have HC := fun W (hW : Below w.heap.size w W) => check_calls ev st A c l W (Kd.C_below hr hW)
  rw [show checkVal ev st l = 11 from by simp [checkVal, h]] at HC
  have HC := Aside0.mk HC
  clear hr h
  go_enter Try.func14, Try.ntmps14
  go_wp2_with fail
  refine (HC.out _ (by repeat (first | exact Below.refl _ _ | apply below_alloc | apply pw_below_drewN | apply below_drew1))).mono ?_
  rintro e w' ⟨rfl, hb'⟩
  have HB' := Aside0.mk hb'
  clear hb' HC
  go_wp2
  go_ret3
  exact ⟨rfl, below_then (below_alloc (Below.refl _ _) _) (by simp) HB'.out⟩
set_option maxHeartbeats 1000000 in
theorem read_long (ev st : Int) (A : Option Addr) (c : Nat) (l : List (List Int)) (A1 : Option Addr) (c1 : Nat) (xs : List Int) (w : World) (hr : Kd.C (Kd.slice 3 (Kd.int .i64)) w A l.length l) (h : specOk ev st l = true) (hx : xs.length > 4096) :
    Calls Try.prog 14 #[.agg #[.int .i64 ev, .int .i64 st, .slice A l.length c], .slice A1 xs.length c1] w fun e w' => e = .returned (.tuple #[.int .i64 0, .int .i64 0, .int .i64 3]) ∧ Below w.heap.size w w' := by
  have HC := fun W (hW : Below w.heap.size w W) => check_calls ev st A c l W (Kd.C_below hr hW)
  rw [show checkVal ev st l = 0 from by simp [checkVal, h]] at HC
  have HC := Aside0.mk HC
  clear hr h
  have hx' : (4096 : Int) < (xs.length : Int) := by omega
  go_enter Try.func14, Try.ntmps14
  go_wp2_with fail
  refine (HC.out _ (by repeat (first | exact Below.refl _ _ | apply below_alloc | apply pw_below_drewN | apply below_drew1))).mono ?_
  rintro e w' ⟨rfl, hb'⟩
  have HB' := Aside0.mk hb'
  clear hb' HC
  go_wp2
  go_ret3
  exact ⟨rfl, below_then (below_alloc (Below.refl _ _) _) (by simp) HB'.out⟩
set_option maxHeartbeats 1000000 in
theorem read_arg (ev st : Int) (A : Option Addr) (c : Nat) (l : List (List Int)) (A1 : Option Addr) (c1 : Nat) (xs : List Int) (w : World) (hr : Kd.C (Kd.slice 3 (Kd.int .i64)) w A l.length l) (hr1 : Kd.C (Kd.int .i64) w A1 xs.length xs) (h : specOk ev st l = true) (hx : ¬ xs.length > 4096) (he : xs.any (evBad ev) = true) :
    Calls Try.prog 14 #[.agg #[.int .i64 ev, .int .i64 st, .slice A l.length c], .slice A1 xs.length c1] w fun e w' => e = .returned (.tuple #[.int .i64 0, .int .i64 0, .int .i64 2]) ∧ Below w.heap.size w w' := by
  have HC := fun W (hW : Below w.heap.size w W) => check_calls ev st A c l W (Kd.C_below hr hW)
  rw [show checkVal ev st l = 0 from by simp [checkVal, h]] at HC
  have HC := Aside0.mk HC
  have HF := fun W (hW : Below w.heap.size w W) (hn : W.cell? ⟨w.heap.size, 0, none⟩ = some (.int .i64 ev)) => containsFunc_calls A1 c1 xs 39 #[.pointer (some ⟨w.heap.size, 0, none⟩)] (fun _ => True) _ W (Kd.C_below hr1 hW) (fun _ _ => trivial) (read1_pred _ _ _ hn) (fun _ _ => rfl)
  rw [he] at HF
  have HF := Aside0.mk HF
  have hmf := run_mkfun
  clear hr h he hr1
  have hx' : ¬ (4096 : Int) < (xs.length : Int) := by omega
  go_enter Try.func14, Try.ntmps14
  go_wp2_with fail
  refine (HC.out _ (by repeat (first | exact Below.refl _ _ | apply below_alloc | apply pw_below_drewN | apply below_drew1))).mono ?_
  rintro e w' ⟨rfl, hb'⟩
  have HB' := Aside0.mk (below_then (below_alloc (Below.refl _ _) _) (by simp) hb')
  have HX := Aside0.mk (blk_below (blk_new _ _) hb')
  clear hb' HC
  go_wp2_with fail
  refine (HF.out _ HB'.out ((blk_cell HX.out 0).trans rfl)).mono ?_
  rintro e w'' ⟨rfl, hb'⟩
  have HB'' := Aside0.mk (below_then HB'.out (HB'.out).size hb')
  clear hb' HF HX
  go_wp2
  go_ret3
  exact ⟨rfl, HB''.out⟩
theorem readFrom_end (l : List (List Int)) (q : Int) (k : Nat) (xs : List Int) (h : ¬ k < xs.length) : readFrom l q k (xs.drop k) = (q, k) := by
  rw [List.drop_eq_nil_of_le (by omega), readFrom]
theorem readFrom_step (l : List (List Int)) (q : Int) (k : Nat) (xs : List Int) (h : k < xs.length) : readFrom l q k (xs.drop k) = if stepAt l q (rd xs k) < 0 then (-1, k) else readFrom l (stepAt l q (rd xs k)) (k + 1) (xs.drop (k + 1)) := by
  have e : rd xs (k : Int) = xs[k] := by simp [rd, List.getD_eq_getElem?_getD, List.getElem?_eq_getElem h]
  rw [List.drop_eq_getElem_cons h, readFrom, e]
def ReadEnd (l : List (List Int)) (st : Int) (xs : List Int) (w : World) (e : Ending) (w' : World) : Prop := e = .returned (.tuple #[.int .i64 (readFrom l st 0 xs).1, .int .i64 ((readFrom l st 0 xs).2 : Int), .int .i64 0]) ∧ Below w.heap.size w w'
set_option maxHeartbeats 1000000 in
theorem read_go (ev st : Int) (A : Option Addr) (c : Nat) (l : List (List Int)) (A1 : Option Addr) (c1 : Nat) (xs : List Int) (w : World) (hr : Kd.C (Kd.slice 3 (Kd.int .i64)) w A l.length l) (hr1 : Kd.C (Kd.int .i64) w A1 xs.length xs) (h : specOk ev st l = true) (hx : ¬ xs.length > 4096) (he : xs.any (evBad ev) = false) :
    Calls Try.prog 14 #[.agg #[.int .i64 ev, .int .i64 st, .slice A l.length c], .slice A1 xs.length c1] w (ReadEnd l st xs w) := by
  have HC := fun W (hW : Below w.heap.size w W) => check_calls ev st A c l W (Kd.C_below hr hW)
  rw [show checkVal ev st l = 0 from by simp [checkVal, h]] at HC
  have HC := Aside0.mk HC
  have HF := fun W (hW : Below w.heap.size w W) (hn : W.cell? ⟨w.heap.size, 0, none⟩ = some (.int .i64 ev)) => containsFunc_calls A1 c1 xs 39 #[.pointer (some ⟨w.heap.size, 0, none⟩)] (fun _ => True) _ W (Kd.C_below hr1 hW) (fun _ _ => trivial) (read1_pred _ _ _ hn) (fun _ _ => rfl)
  rw [he] at HF
  have HF := Aside0.mk HF
  have hmf := run_mkfun
  obtain ⟨g0, g1, g2, g3, g4, g5⟩ := headOk_true (specOk_head h)
  have HS := Aside0.mk h
  have HE := Aside0.mk he
  have HR := Aside0.mk hr
  have HR1 := Aside0.mk hr1
  clear hr h he hr1
  have hx' : ¬ (4096 : Int) < (xs.length : Int) := by omega
  go_enter Try.func14, Try.ntmps14
  go_wp2_with fail
  refine (HC.out _ (by repeat (first | exact Below.refl _ _ | apply below_alloc | apply pw_below_drewN | apply below_drew1))).mono ?_
  rintro e w' ⟨rfl, hb'⟩
  have HB' := Aside0.mk (below_then (below_alloc (Below.refl _ _) _) (by simp) hb')
  have HX := Aside0.mk (blk_below (blk_new _ _) hb')
  clear hb' HC
  go_wp2_with fail
  refine (HF.out _ HB'.out ((blk_cell HX.out 0).trans rfl)).mono ?_
  rintro e w'' ⟨rfl, hb'⟩
  have HB'' := Aside0.mk (below_then HB'.out (HB'.out).size hb')
  have HX' := Aside0.mk (blk_below HX.out hb')
  clear hb' HF HX HB'
  have hz1 : w''.cell? ⟨w.heap.size, 1, none⟩ = some (.int .i64 st) := (blk_cell HX'.out 1).trans rfl
  go_wp2
  go_loopg [8, 26] xs.length (fun gg v8 v26 wr => ∃ (kk : Nat) (q : Int), kk ≤ xs.length ∧ xs.length - kk ≤ gg ∧ v26 = .int .i64 kk ∧ v8 = .int .i64 q ∧ 0 ≤ q ∧ q < (l.length : Int) ∧ Aside0 (Below w.heap.size w wr) ∧ Aside0 (wr.heap[w.heap.size]? = some (.cells #[.int .i64 ev, .int .i64 st, .slice A l.length c] 24 (0, 0))) ∧ Aside0 (readFrom l st 0 xs = readFrom l q kk (xs.drop kk)))
  case atStart => exact ⟨0, st, Nat.zero_le _, by omega, rfl, rfl, by omega, by omega, HB'', HX', ⟨rfl⟩⟩
  case round =>
    clear HX' HB''
    obtain ⟨kk, q, hkk, hg, rfl, rfl, hq0, hq1, BW, HX, HA⟩ := hrel
    by_cases hlt : kk < xs.length
    · have hltz : (kk : Int) < (xs.length : Int) := by omega
      obtain ⟨ad, e0, hx0⟩ := Kd.at_int (Kd.C_below HR1.out BW.out) (kk : Int) (by omega) hltz
      cases e0
      rw [Int.toNat_natCast] at hx0
      have hxr : 0 ≤ rd xs kk ∧ rd xs kk < ev := by
        have h2 := List.any_eq_false.1 HE.out (rd xs kk) (rd_mem hlt)
        simp only [evBad, Bool.or_eq_true, decide_eq_true_eq] at h2
        omega
      obtain ⟨ad2, A0, c0, e0, hx2, hl0, hr0⟩ := Q.at_L1 (Kd.C_below HR.out BW.out) q hq0 hq1
      cases e0
      have hlen := (specOk_row HS.out hq0 hq1).1
      have hsr := stepAt_range HS.out hq0 hq1 hxr.1 hxr.2
      have HST := Aside0.mk (readFrom_step l q kk xs hlt)
      rw [← HA.out] at HST
      clear HA
      generalize hx1 : rd xs (kk : Int) = x at hx0 hxr HST hsr
      obtain ⟨hxr0, hxr1⟩ := hxr
      obtain ⟨ad3, e0, hx3⟩ := Kd.at_int hr0 x hxr0 (by omega)
      cases e0
      unfold stepAt at HST hsr
      clear hx1 hr0
      generalize hy : Q.rd_L1 l q = y at hx2 hx3 hlen hl0 HST hsr
      generalize rd y x = q1 at hx3 HST hsr
      have hxy : x < (y.length : Int) := by omega
      have hz0 : wr.cell? ⟨w.heap.size, 2, none⟩ = some (.slice (some ad2) l.length c) := (blk_cell HX.out 2).trans rfl
      clear hy hlen
      by_cases hneg : q1 < 0
      · rw [if_pos hneg] at HST
        have hn2 : decide (q1 < 0) = true := by simpa using hneg
        go_wp2
        go_ret3
        refine ⟨?_, BW.out⟩
        rw [HST.out]; rfl
      · rw [if_neg hneg] at HST
        have hn2 : decide (q1 < 0) = false := by simpa using hneg
        go_wp2
        go_roundg (xs.length - (kk + 1))
        case measure => omega
        case rel => exact ⟨kk + 1, q1, by omega, by omega, by go_num, rfl, by omega, by omega, BW, HX, HST⟩
    · have hltz : ¬ (kk : Int) < (xs.length : Int) := by omega
      have HST := Aside0.mk (HA.out.trans (readFrom_end l q kk xs hlt))
      have hke : kk = xs.length := by omega
      have HK := Aside0.mk hke
      clear hke HA
      go_wp2
      go_ret3
      refine ⟨?_, BW.out⟩
      rw [HST.out, HK.out]; rfl
end Go.Proofs.Ytmphigeefppfpaa.H
namespace Go.Proofs.YtmphigeefppfpaaW.PrintWords
open Go.RowKit Go.Maps Go.ChangeMaps
/-- What is needed of the key's type: how a key stands as a value. -/
structure KeyB {κ : Type} (P : Program) (k : TypeId) (enc : κ → Value) (dom : κ → Prop) : Prop where
  K : Keyed P k
  lit : ∀ x, dom x → ∃ l, keyOf P k (enc x) = some l
  inj : ∀ x y, enc x = enc y → x = y
def entsOf {κ ν : Type} (enc : κ → Value) (encV : ν → Value) (es : List (κ × ν)) : List (Value × Value) := es.map fun p => (enc p.1, encV p.2)
/-- Block B is a map with just these entries. -/
def MapIs {κ ν : Type} (w : World) (B : Nat) (enc : κ → Value) (encV : ν → Value) (dom : κ → Prop) (es : List (κ × ν)) : Prop :=
  (∃ ms ck, w.heap[B]? = some (.map ms ck) ∧ ms.toList.map (fun e => (e.key, e.val)) = entsOf enc encV es) ∧ (es.map (·.1)).Nodup ∧ ∀ p ∈ es, dom p.1
section
variable {κ ν : Type} {P : Program} {w w1 : World} {B : Nat} {enc : κ → Value} {encV : ν → Value} {dom : κ → Prop} {es : List (κ × ν)} {k t e : TypeId}
theorem mapIs_new (w : World) (enc : κ → Value) (encV : ν → Value) (dom : κ → Prop) : MapIs (w.alloc (.map #[] 0)) w.heap.size enc encV dom [] :=
  ⟨⟨#[], 0, heap_alloc_new w _, rfl⟩, List.nodup_nil, by simp⟩
theorem MapIs.kept (h : MapIs w B enc encV dom es) (hb : w1.heap[B]? = w.heap[B]?) : MapIs w1 B enc encV dom es := by
  obtain ⟨⟨ms, ck, h1, h2⟩, h3⟩ := h
  exact ⟨⟨ms, ck, hb.trans h1, h2⟩, h3⟩
theorem MapIs.lt (h : MapIs w B enc encV dom es) : B < w.heap.size := by
  obtain ⟨⟨ms, ck, h1, _⟩, _⟩ := h
  exact (Array.getElem?_eq_some_iff.1 h1).1
theorem MapIs.below (h : MapIs w B enc encV dom es) (hb : Below w.heap.size w w1) : MapIs w1 B enc encV dom es := h.kept (hb.block B h.lt)
theorem MapIs.grown (h : MapIs w B enc encV dom es) {row : Option Nat} (hg : w.grownBy w1 row) (hne : some B ≠ row) : MapIs w1 B enc encV dom es := h.kept (hg.block B h.lt hne)
/-- A map's block is no row of cells. -/
theorem MapIs.ne_row (h : MapIs w B enc encV dom es) {g : Nat} {cs : Array Value} {q : TypeId} {fr : Nat × Nat} (hg : w.heap[g]? = some (.cells cs q fr)) : g ≠ B := by
  rintro rfl
  obtain ⟨⟨ms, ck, h1, _⟩, _⟩ := h
  rw [hg] at h1
  cases h1
end
section
variable {κ ν : Type} [DecidableEq κ] {P : Program} {w w1 : World} {B : Nat} {enc : κ → Value} {encV : ν → Value} {dom : κ → Prop} {es : List (κ × ν)} {k t e : TypeId}
/-- The element at a key. -/
def mget (x : κ) (es : List (κ × ν)) : Option ν := (es.find? fun p => p.1 = x).map (·.2)
/-- A store. -/
def mput (x : κ) (v : ν) : List (κ × ν) → List (κ × ν)
  | [] => [(x, v)]
  | (y, u) :: r => if y = x then (x, v) :: r else (y, u) :: mput x v r
theorem mput_new {x : κ} {v : ν} {es : List (κ × ν)} (h : x ∉ es.map (·.1)) : mput x v es = es ++ [(x, v)] := by
  induction es with
  | nil => rfl
  | cons p r ih =>
    obtain ⟨y, u⟩ := p
    simp only [List.map_cons, List.mem_cons, not_or] at h
    simp only [mput, if_neg (Ne.symm h.1), ih h.2, List.cons_append]
theorem mput_keys {x : κ} {v : ν} (es : List (κ × ν)) : (mput x v es).map (·.1) = if x ∈ es.map (·.1) then es.map (·.1) else es.map (·.1) ++ [x] := by
  induction es with
  | nil => simp [mput]
  | cons p r ih =>
    obtain ⟨y, u⟩ := p
    by_cases h : y = x
    · subst h; simp [mput]
    · simp only [mput, if_neg h, List.map_cons, ih, List.mem_cons, Ne.symm h, false_or]
      split <;> simp
theorem mget_none {x : κ} {es : List (κ × ν)} : mget x es = none ↔ x ∉ es.map (·.1) := by
  simp only [mget, Option.map_eq_none_iff, List.find?_eq_none, List.mem_map, not_exists, not_and, decide_eq_true_eq]
theorem find_keys (H : KeyB P k enc dom) {ms : List MapEntry} (hms : ms.map (fun e => (e.key, e.val)) = entsOf enc encV es) (hd : ∀ p ∈ es, dom p.1) {x : κ} (hx : dom x) (w : World) (hnd : (es.map (·.1)).Nodup) :
    (mget x es = none ∧ (Instr.findKey k (enc x) ms).run P w = .ok none w) ∨ ∃ v j, mget x es = some v ∧ es[j]? = some (x, v) ∧ (Instr.findKey k (enc x) ms).run P w = .ok (some (j, encV v)) w := by
  have hlen : ms.length = es.length := by have := congrArg List.length hms; simpa [entsOf] using this
  have hat : ∀ (j : Nat) (e : MapEntry), ms[j]? = some e → ∃ p : κ × ν, es[j]? = some p ∧ e.key = enc p.1 ∧ e.val = encV p.2 := by
    intro j e he
    have h1 : (ms.map (fun e => (e.key, e.val)))[j]? = some (e.key, e.val) := by rw [List.getElem?_map, he]; rfl
    rw [hms] at h1
    simp only [entsOf, List.getElem?_map, Option.map_eq_some_iff, Prod.mk.injEq] at h1
    obtain ⟨p, hp, h2, h3⟩ := h1
    exact ⟨p, hp, h2.symm, h3.symm⟩
  obtain ⟨l, hl⟩ := H.lit x hx
  rcases H.K.find w hl ms (fun e he => by
    obtain ⟨j, hj, rfl⟩ := List.getElem_of_mem he
    obtain ⟨p, hp, h2, _⟩ := hat j _ (List.getElem?_eq_getElem hj)
    rw [h2]
    exact H.lit _ (hd p (List.mem_of_getElem? hp))) with ⟨h1, h2⟩ | ⟨j, e0, h1, h2, h3⟩
  · refine .inl ⟨mget_none.2 fun hm => ?_, h1⟩
    obtain ⟨p, hp, rfl⟩ := List.mem_map.1 hm
    obtain ⟨j, hj, hpj⟩ := List.getElem_of_mem hp
    have hj' : j < ms.length := by omega
    obtain ⟨q, hq, h4, _⟩ := hat j _ (List.getElem?_eq_getElem hj')
    rw [List.getElem?_eq_getElem hj, Option.some.injEq, hpj] at hq
    subst hq
    exact h2 _ (List.getElem_mem hj') h4
  · obtain ⟨p, hp, h4, h5⟩ := hat j e0 h2
    have hpx : p.1 = x := H.inj _ _ (h4.symm.trans h3)
    obtain ⟨y, v⟩ := p
    simp only at hpx
    subst hpx
    refine .inr ⟨v, j, ?_, hp, by rw [h1, h5]⟩
    have hfind : ∀ (es : List (κ × ν)) (j : Nat), (es.map (·.1)).Nodup → es[j]? = some (y, v) → mget y es = some v := by
      intro es
      induction es with
      | nil => intro j _ h; simp at h
      | cons q r ih =>
        intro j hn hj
        cases j with
        | zero =>
          obtain rfl : q = (y, v) := by simpa using hj
          simp [mget]
        | succ j =>
          have hj' : r[j]? = some (y, v) := by simpa using hj
          simp only [List.map_cons, List.nodup_cons] at hn
          have hne : q.1 ≠ y := fun e => hn.1 (e ▸ List.mem_map.2 ⟨(y, v), List.mem_of_getElem? hj', rfl⟩)
          have h6 := ih j hn.2 hj'
          simp only [mget] at h6 ⊢
          rw [List.find?_cons, decide_eq_false hne]
          exact h6
    exact hfind es j hnd hp
/-- 'v, ok := m[k]'. -/
theorem MapIs.look (h : MapIs w B enc encV dom es) (H : KeyB P k enc dom) (ht : P.underlying t = some (.map k e)) {z : Value} (hz : (zeroValue e).run P w = .ok z w) {x : κ} (hx : dom x) (c : Bool) :
    (Instr.lookup t (.map (some B)) (enc x) c).run P w = .ok (match mget x es with | some v => if c then .tuple #[encV v, .bool true] else encV v | none => if c then .tuple #[z, .bool false] else z) w := by
  obtain ⟨⟨ms, ck, hb, hms⟩, hnd, hd⟩ := h
  obtain ⟨l, hl⟩ := H.lit x hx
  rcases find_keys H hms hd hx w hnd with ⟨h1, h2⟩ | ⟨v, j, h1, _, h2⟩
  · rw [h1]
    simp [Instr.lookup, run_underlying ht, MapKept.run_getObj_map hb, H.K.check w _ hl, h2, hz, Result.andThen]
  · rw [h1]
    simp [Instr.lookup, run_underlying ht, MapKept.run_getObj_map hb, H.K.check w _ hl, h2, Result.andThen]
theorem ents_mput (H : KeyB P k enc dom) (x : κ) (v : ν) : ∀ (es : List (κ × ν)) (j : Nat) (u : ν), es[j]? = some (x, u) → (es.map (·.1)).Nodup → entsOf enc encV (mput x v es) = (entsOf enc encV es).set j (enc x, encV v)
  | [], j, u, h, _ => by simp at h
  | (y, z) :: r, 0, u, h, hn => by
    have h' : y = x ∧ z = u := by simpa using h
    obtain ⟨rfl, rfl⟩ := h'
    simp [mput, entsOf]
  | (y, z) :: r, j + 1, u, h, hn => by
    have hj' : r[j]? = some (x, u) := by simpa using h
    simp only [List.map_cons, List.nodup_cons] at hn
    have hne : ¬ y = x := fun e => hn.1 (e ▸ List.mem_map.2 ⟨(x, u), List.mem_of_getElem? hj', rfl⟩)
    have ih := ents_mput H x v r j u hj' hn.2
    simp only [mput, if_neg hne, entsOf, List.map_cons, List.set_cons_succ]
    exact congrArg _ ih
/-- 'm[k] = v'. -/
theorem MapIs.put (h : MapIs w B enc encV dom es) (H : KeyB P k enc dom) (ht : P.underlying t = some (.map k e)) {x : κ} (hx : dom x) (v : ν) :
    ∃ w', (Instr.mapUpdate t (.map (some B)) (enc x) (encV v)).run P w = .ok () w' ∧ MapIs w' B enc encV dom (mput x v es) ∧ w.grownBy w' (some B) := by
  have hlt := h.lt
  obtain ⟨⟨ms, ck, hb, hms⟩, hnd, hd⟩ := h
  obtain ⟨l, hl⟩ := H.lit x hx
  have hkeys : ((mput x v es).map (·.1)).Nodup := by
    rw [mput_keys]
    split
    · exact hnd
    · rename_i hx'
      refine List.nodup_append.2 ⟨hnd, by simp, fun a ha b hb' => ?_⟩
      obtain rfl : b = x := by simpa using hb'
      exact fun e => hx' (e ▸ ha)
  have hdoms : ∀ p ∈ mput x v es, dom p.1 := by
    intro p hp
    have h1 : p.1 ∈ (mput x v es).map (·.1) := List.mem_map.2 ⟨p, hp, rfl⟩
    rw [mput_keys] at h1
    have h2 : p.1 ∈ es.map (·.1) ∨ p.1 = x := by
      split at h1
      · exact .inl h1
      · rcases List.mem_append.1 h1 with h1 | h1
        · exact .inl h1
        · exact .inr (by simpa using h1)
    rcases h2 with h2 | h2
    · obtain ⟨q, hq, e1⟩ := List.mem_map.1 h2
      rw [← e1]; exact hd q hq
    · rw [h2]; exact hx
  have hturn : ∀ o : Obj, w.grownBy (setBlock w B o) (some B) := fun o => ⟨rfl, rfl, rfl, by simp [setBlock], fun i hi hne => by
    have hne' : B ≠ i := fun e => hne (by rw [e])
    simp [setBlock, hne']⟩
  rcases find_keys H hms hd hx w hnd with ⟨h1, h2⟩ | ⟨u, j, h1, h3, h2⟩
  · refine ⟨setBlock w B (.map (ms.push ⟨enc x, encV v, ck⟩) (ck + 1)), ?_, ⟨⟨ms.push ⟨enc x, encV v, ck⟩, ck + 1, by simp [setBlock, hlt], ?_⟩, hkeys, hdoms⟩, hturn _⟩
    · simp [Instr.mapUpdate, run_underlying ht, MapKept.run_getObj_map hb, H.K.check w false hl, h2, MapKept.run_setObj_map _ hb, Result.andThen, setBlock]
    · rw [mput_new (mget_none.1 h1), Array.toList_push, List.map_append, hms]
      simp [entsOf]
  · have hj : j < ms.size := by
      have h4 : (entsOf enc encV es)[j]? = some (enc x, encV u) := by rw [entsOf, List.getElem?_map, h3]; rfl
      rw [← hms] at h4
      have := (List.getElem?_eq_some_iff.1 h4).1
      simpa using this
    have hkey : (ms[j]'hj).key = enc x := by
      have h4 : (entsOf enc encV es)[j]? = some (enc x, encV u) := by rw [entsOf, List.getElem?_map, h3]; rfl
      rw [← hms, List.getElem?_map, List.getElem?_eq_getElem (by simpa using hj)] at h4
      simpa using congrArg Prod.fst (Option.some.inj h4)
    refine ⟨setBlock w B (.map (ms.modify j fun e => { e with key := enc x, val := encV v }) ck), ?_, ⟨⟨ms.modify j fun e => { e with key := enc x, val := encV v }, ck, by simp [setBlock, hlt], ?_⟩, hkeys, hdoms⟩, hturn _⟩
    · simp [Instr.mapUpdate, run_underlying ht, MapKept.run_getObj_map hb, H.K.check w false hl, h2, MapKept.run_setObj_map _ hb, Result.andThen, setBlock, hj, hkey, H.K.stays w hl]
    · rw [ents_mput H x v es j u h3 hnd, ← hms]
      apply List.ext_getElem?
      intro i
      by_cases hij : i = j
      · subst hij
        simp [hj]
      · simp only [List.getElem?_map, Array.getElem?_toList, List.getElem?_set, Ne.symm hij, if_false]
        rw [Array.getElem?_modify]
        simp [Ne.symm hij]
end
end Go.Proofs.YtmphigeefppfpaaW.PrintWords
namespace Go.Proofs.Ytmphigeefppfpaa.H
open Go.RowKit Go.Proofs.YtmphigeefppfpaaW.PrintWords Go.Proofs.YtmphigeefppfpaaW.PrintLast Go.Proofs.YtmphigeefppfpaaW.PrintMore
set_option linter.unusedVariables false
theorem info3 : (Try.prog.info? 3).map (fun i => (i.zero, i.size, i.bytes)) = some (some (.int .i64 0), 1, 8) := by kernel_rfl
def wf64 (x : Int) : Prop := (Lit.int .i64 x).wf = true
theorem rd_at {xs : List Int} {j : Nat} (h : j < xs.length) : rd xs (j : Int) = xs[j] := by
  simp [rd, List.getD_eq_getElem?_getD, List.getElem?_eq_getElem h]
/-- Two sets of blocks apart. -/
def Disj (A B : Nat → Prop) : Prop := ∀ k, A k → ¬ B k
section
variable {α β : Type} {d : Kd α} {d' : Kd β} {e e' base : Nat} {S T : Nat → Prop} {W W1 : World} {v u : Value} {xs : List α} {ys : List β}
theorem Disj.symm {A B : Nat → Prop} (h : Disj A B) : Disj B A := fun k hb ha => h k ha hb
theorem Disj.less {A B : Nat → Prop} (h : Disj A B) (N : Nat) : Disj (fun k => A k ∧ k < N) (fun k => B k ∧ k < N) := fun k ha hb => h k ha.1 hb.1
end
end Go.Proofs.Ytmphigeefppfpaa.H
namespace Go.Proofs.YtmphigeefppfpaaW.PrintWords
open Go.RowKit Go.Maps Go.ChangeMaps
theorem mapM_some {α β : Type} {f : α → Option β} : ∀ (l : List α), (∀ x ∈ l, ∃ y, f x = some y) → ∃ ys, l.mapM f = some ys
  | [], _ => ⟨[], rfl⟩
  | x :: l, h => by
    obtain ⟨y, hy⟩ := h x List.mem_cons_self
    obtain ⟨ys, hys⟩ := mapM_some l (fun z hz => h z (List.mem_cons_of_mem _ hz))
    exact ⟨y :: ys, by simp [List.mapM_cons, hy, hys]⟩
/-- An array of n numbers, as a value. -/
def encA (q : IntKind) (xs : List Int) : Value := .agg (xs.map (Value.int q)).toArray
theorem keyLits_arr {P : Program} {k e : TypeId} {q : IntKind} {n : Nat} (hk : P.underlying k = some (.array n e)) (he : P.underlying e = some (.int q)) (ce : P.cellsOf e = 1) (ck : P.cellsOf k = n) {xs : List Int} (hl : xs.length = n) (hw : ∀ x ∈ xs, (Lit.int q x).wf = true) (d : Nat) :
    ∃ ls, P.keyLits (d + 2) k (xs.map (Value.int q)) = some ls := by
  rw [Program.keyLits.eq_def]
  simp only [hk]
  rw [if_pos (by rw [List.length_map, hl, ck])]
  obtain ⟨ys, hys⟩ := mapM_some (f := fun i => P.keyLits (d + 1) e (((xs.map (Value.int q)).drop (i * P.cellsOf e)).take (P.cellsOf e))) (List.range n) (fun i hi => by
    have hi' : i < xs.length := by rw [hl]; exact List.mem_range.1 hi
    rw [ce, Nat.mul_one, List.drop_eq_getElem_cons (by rw [List.length_map]; exact hi'), List.take_succ_cons, List.take_zero, List.getElem_map]
    refine ⟨[.int q xs[i]], ?_⟩
    rw [Program.keyLits.eq_def]
    simp only [he]
    rw [if_pos ⟨trivial, hw _ (List.getElem_mem hi')⟩])
  exact ⟨ys.flatten, by rw [hys]; rfl⟩
theorem cells_encA {q : IntKind} {xs : List Int} : (encA q xs).cells.toList = xs.map (Value.int q) := by simp [encA, Value.cells]
theorem keyArr {P : Program} {k e : TypeId} {q : IntKind} {n : Nat} (hl : laidOutB P = true) (hrow : k < P.types.size) (hkt : P.keyTypeAt 5 k = true) (hkey : P.keyType k = true) (hk : P.underlying k = some (.array n e)) (he : P.underlying e = some (.int q)) (ce : P.cellsOf e = 1) (ck : P.cellsOf k = n) (hsz : 1 ≤ P.types.size) :
    KeyB P k (encA q) (fun xs => xs.length = n ∧ ∀ x ∈ xs, (Lit.int q x).wf = true) where
  K := Keyed.of_law (deep_law_laid hl (m := 5) (by decide) hrow hkt (by simp only [hk]))
  lit := fun xs hx => by
    obtain ⟨d, hd⟩ : ∃ d, P.types.size + 1 = d + 2 := ⟨P.types.size - 1, by omega⟩
    obtain ⟨ls, hls⟩ := keyLits_arr hk he ce ck hx.1 hx.2 d
    refine ⟨.string (keyBytes ls), ?_⟩
    simp only [keyOf, hk]
    rw [if_pos (by rw [hkey, Bool.true_and]; simp [encA, Value.formed, hk, ck, hx.1]), cells_encA, hd, hls]
    rfl
  inj := fun xs ys h => by
    simp only [encA, Value.agg.injEq] at h
    have h2 : xs.map (Value.int q) = ys.map (Value.int q) := congrArg Array.toList h
    have hinj : ∀ a b : Int, Value.int q a = Value.int q b → a = b := fun a b h => by cases h; rfl
    exact (List.map_inj_right hinj).1 h2
end Go.Proofs.YtmphigeefppfpaaW.PrintWords
namespace Go.Proofs.Ytmphigeefppfpaa.H
open Go.RowKit Go.Proofs.YtmphigeefppfpaaW.PrintWords Go.Proofs.YtmphigeefppfpaaW.PrintLast Go.Proofs.YtmphigeefppfpaaW.PrintMore
set_option linter.unusedVariables false
def kP : Kd (Int × Int) := Kd.pair (Kd.int .i64) (Kd.int .i64)
def encP (p : Int × Int) : Value := .agg #[.int .i64 p.1, .int .i64 p.2]
def domP (p : Int × Int) : Prop := wf64 p.1 ∧ wf64 p.2
theorem key56 : KeyB Try.prog 56 (encA .i64) (fun xs => xs.length = 2 ∧ ∀ x ∈ xs, (Lit.int .i64 x).wf = true) := keyArr (P := Try.prog) (e := 3) (n := 2) (by kernel_rfl) (of_decide_eq_true (by kernel_rfl)) (by kernel_rfl) (by kernel_rfl) Try.underlying56 Try.underlying3 (by kernel_rfl) (by kernel_rfl) (of_decide_eq_true (by kernel_rfl))
theorem keyPair : KeyB Try.prog 56 encP domP where
  K := key56.K
  lit := fun p h => key56.lit [p.1, p.2] ⟨rfl, fun x hx => by
    simp only [List.mem_cons, List.not_mem_nil, or_false] at hx
    rcases hx with rfl | rfl
    · exact h.1
    · exact h.2⟩
  inj := fun p q h => by
    obtain ⟨a, b⟩ := p
    obtain ⟨c, d⟩ := q
    simp only [encP, Value.agg.injEq] at h
    have := congrArg Array.toList h
    simp at this
    exact Prod.ext this.1 this.2
theorem info56 : (Try.prog.info? 56).map (fun i => (i.zero, i.size, i.bytes)) = some (some (.agg #[.int .i64 0, .int .i64 0]), 2, 16) := by kernel_rfl
theorem M_pair (W : World) (base : Nat) (ok : Nat → Prop) (p : Int × Int) : kP.M W base ok p [.int .i64 p.1, .int .i64 p.2] := ⟨[.int .i64 p.1], [.int .i64 p.2], rfl, rfl, rfl⟩
/-- One pair in a new block. -/
theorem R_new1P (W : World) (x : Int × Int) (base : Nat) (hb : base ≤ W.heap.size) : Kd.R kP 56 (W.alloc (.cells #[.int .i64 x.1, .int .i64 x.2] 56)) base (fun k => k = W.heap.size) (.slice (some ⟨W.heap.size, 0, none⟩) 1 1) [x] := by
  refine ⟨fun k hk => ?_, [.int .i64 x.1, .int .i64 x.2], ⟨by rfl, .inr ⟨W.heap.size, 1, #[.int .i64 x.1, .int .i64 x.2], rfl, hb, blk_new _ _, by simp, by decide, by simp [kP, Kd.pair, Kd.int, Kd.scalar], by simp [kP, Kd.pair, Kd.int, Kd.scalar]⟩⟩, ?_⟩
  · have : W.heap.size = k := by simpa [Value.ownBlock] using hk
    omega
  · exact (Reps.none _ _).snoc (M_pair _ _ _ x) rfl
end Go.Proofs.Ytmphigeefppfpaa.H
namespace Go.Proofs.Ytmphigeefppfpaa.Q
open Go.RowKit Go.Proofs.YtmphigeefppfpaaW.PrintWords Go.Proofs.YtmphigeefppfpaaW.PrintLast Go.Proofs.YtmphigeefppfpaaW.PrintMore
attribute [local go_sem] max2_int min2_int max_two min_two max_three min_three max_four min_four   -- for this text's walks alone
set_option linter.unusedVariables false
set_option linter.unusedSimpArgs false
mutual
def virgationref11_Is.j0 : Nat → Int → Bool → Int → Int → List (List Int) → Option (Bool)
  | 0, _, _, _, _, _ => none
  | k + 1, x3, x37, x102000, x102001, x102002 => if x37 = true then (some false) else (virgationref11_Is.l0 k x3 x102002 (x102002.length : Int) 0 x102000 x102001 x102002)
def virgationref11_Is.l0 : Nat → Int → List (List Int) → Int → Int → Int → Int → List (List Int) → Option (Bool)
  | 0, _, _, _, _, _, _, _ => none
  | k + 1, x3, x39, x40, x41, x102000, x102001, x102002 => if x41 < x40 then (if 0 ≤ x41 then (if x41 < (x39.length : Int) then (if ((rd_L1 x39 x41).length : Int) = x102000 then (virgationref11_Is.l1 k x3 x39 x40 x41 (rd_L1 x39 x41) ((rd_L1 x39 x41).length : Int) 0 x102000 x102001 x102002) else (some false)) else (none)) else (none)) else (some true)
def virgationref11_Is.l1 : Nat → Int → List (List Int) → Int → Int → List Int → Int → Int → Int → Int → List (List Int) → Option (Bool)
  | 0, _, _, _, _, _, _, _, _, _, _ => none
  | k + 1, x3, x39, x40, x41, x50, x51, x52, x102000, x102001, x102002 => if x52 < x51 then (if 0 ≤ x52 then (if x52 < (x50.length : Int) then (if (rd x50 x52) < (-1) then (some false) else (if (rd x50 x52) ≥ x3 then (some false) else (virgationref11_Is.l1 k x3 x39 x40 x41 x50 x51 (wrap64 (x52 + 1)) x102000 x102001 x102002))) else (none)) else (none)) else (virgationref11_Is.l0 k x3 x39 x40 (wrap64 (x41 + 1)) x102000 x102001 x102002)
end
def virgationref11_Is.f (k : Nat) (a0_0 : Int) (a0_1 : Int) (l0_2 : List (List Int)) : Option (Bool) := if a0_0 < 0 then (virgationref11_Is.j0 k (l0_2.length : Int) true a0_0 a0_1 l0_2) else (if a0_0 > 16 then (virgationref11_Is.j0 k (l0_2.length : Int) true a0_0 a0_1 l0_2) else (if (l0_2.length : Int) < 1 then (virgationref11_Is.j0 k (l0_2.length : Int) true a0_0 a0_1 l0_2) else (if (l0_2.length : Int) > 64 then (virgationref11_Is.j0 k (l0_2.length : Int) true a0_0 a0_1 l0_2) else (if a0_1 < 0 then (virgationref11_Is.j0 k (l0_2.length : Int) true a0_0 a0_1 l0_2) else (virgationref11_Is.j0 k (l0_2.length : Int) (decide (a0_1 ≥ (l0_2.length : Int))) a0_0 a0_1 l0_2)))))
set_option maxHeartbeats 8000000 in
set_option maxRecDepth 100000 in
theorem virgationref11_Is.calls (k : Nat) (a0_0 : Int) (a0_1 : Int) (A0_2 : Option Addr) (c0_2 : Nat) (l0_2 : List (List Int)) (r : Bool) (w : World) (hr0_2 : Kd.C (Kd.slice 3 (Kd.int .i64)) w A0_2 l0_2.length l0_2) (hc0_2 : l0_2.length ≤ c0_2) (h : virgationref11_Is.f k a0_0 a0_1 l0_2 = some r) :
    Calls Try.prog 20 #[.agg #[.int .i64 a0_0, .int .i64 a0_1, .slice A0_2 l0_2.length c0_2]] w fun e w' => e = .returned (.bool r) ∧ Below w.heap.size w w' := by
  have hu24 := Try.underlying24
  have HR0_2 := Aside0.mk hr0_2
  have HC0_2 := Aside0.mk hc0_2
  clear hr0_2 hc0_2
  have HB := Aside0.mk (Below.refl w.heap.size w)
  have H : (if a0_0 < 0 then (virgationref11_Is.j0 k (l0_2.length : Int) true a0_0 a0_1 l0_2) else (if a0_0 > 16 then (virgationref11_Is.j0 k (l0_2.length : Int) true a0_0 a0_1 l0_2) else (if (l0_2.length : Int) < 1 then (virgationref11_Is.j0 k (l0_2.length : Int) true a0_0 a0_1 l0_2) else (if (l0_2.length : Int) > 64 then (virgationref11_Is.j0 k (l0_2.length : Int) true a0_0 a0_1 l0_2) else (if a0_1 < 0 then (virgationref11_Is.j0 k (l0_2.length : Int) true a0_0 a0_1 l0_2) else (virgationref11_Is.j0 k (l0_2.length : Int) (decide (a0_1 ≥ (l0_2.length : Int))) a0_0 a0_1 l0_2)))))) = some r := h
  clear h
  have HC2 := Aside0.mk H
  clear H
  go_enter Try.func20, Try.ntmps20
  go_upto_region 2 with (first | ((with_reducible refine gate_dst (N := 1) rfl ?_); refine box_event ?hg (N := 1) ?hd (cs := #[.int .i64 a0_0, .int .i64 a0_1, .slice A0_2 l0_2.length c0_2]) (t := 24) ?hr ?_; (case hd => rfl); (case hg => rfl); (case hr => first | (go_simp; done) | (go_simp; rfl)); intro gb101 hg w3 hbox hb; have n0_ := Aside0.mk (below_step (by repeat (first | (with_reducible first | exact HB.out | apply below_alloc | apply pw_below_drewN | apply below_drew1) | exact HB.out)) hb); have n1_ := Aside0.mk (hbox); have n2_ := Aside0.mk ((by rw [hg]; exact (below_size (by repeat (first | (with_reducible first | exact HB.out | apply below_alloc | apply pw_below_drewN | apply below_drew1) | exact HB.out))) : w.heap.size ≤ gb101)); have n3_ := Aside0.mk ((by rw [hg]; exact (below_size (by repeat (first | (with_reducible first | exact HB.out | apply below_alloc | apply pw_below_drewN | apply below_drew1) | exact HB.out))) : w.heap.size ≤ gb101)); clear HB; have HB := n0_; have BK101 := n1_; have GW101 := n2_; have GE101 := n3_; clear n0_ n1_ n2_ n3_; clear hb hbox hg; have hcz4_0 : w3.cell? ⟨gb101, 0, none⟩ = some (.int .i64 a0_0) := (blk_cell BK101.out 0).trans rfl; have hcz4_1 : w3.cell? ⟨gb101, 1, none⟩ = some (.int .i64 a0_1) := (blk_cell BK101.out 1).trans rfl; have hcz4_2 : w3.cell? ⟨gb101, 2, none⟩ = some (.slice A0_2 l0_2.length c0_2) := (blk_cell BK101.out 2).trans rfl; have hfz4_0 := blk_frozen BK101.out 0; have hfz4_1 := blk_frozen BK101.out 1; have hfz4_2 := blk_frozen BK101.out 2))
  (try simp only [Act.put, List.setIfInBounds_toArray, List.set_cons_zero, List.set_cons_succ])
  go_cut [37] (fun v37 wc => ∃ (kq : Nat) (x37_1 : Bool), v37 = .bool x37_1 ∧ Aside0 (virgationref11_Is.j0 kq (l0_2.length : Int) x37_1 a0_0 a0_1 l0_2 = some r) ∧ Aside0 (kq ≤ k) ∧ Aside0 (wc.heap[gb101]? = some (.cells #[.int .i64 a0_0, .int .i64 a0_1, (.slice A0_2 l0_2.length c0_2)] 24 (0, 0))) ∧ Aside0 (Below w.heap.size w wc))
  case first =>
    have H := HC2.out
    clear HC2
    by_cases c5 : a0_0 < 0
    · rw [if_pos c5] at H
      have c5b0 : decide (a0_0 < 0) = true := decide_eq_true c5
      clear c5
      (first | rw [c5b0] | (simp only [i64_w, i32_w]; rw [c5b0]) | skip)
      have H' := Aside0.mk H
      clear H
      have hcz6_0 : w3.cell? ⟨gb101, 0, none⟩ = some (.int .i64 a0_0) := (blk_cell BK101.out 0).trans rfl
      have hcz6_1 : w3.cell? ⟨gb101, 1, none⟩ = some (.int .i64 a0_1) := (blk_cell BK101.out 1).trans rfl
      have hcz6_2 : w3.cell? ⟨gb101, 2, none⟩ = some (.slice A0_2 l0_2.length c0_2) := (blk_cell BK101.out 2).trans rfl
      have hfz6_0 := blk_frozen BK101.out 0
      have hfz6_1 := blk_frozen BK101.out 1
      have hfz6_2 := blk_frozen BK101.out 2
      go_wp2
      go_meet
      case rel => exact ⟨_, (true), (by first | rfl | (simp; done) | (simp [*]; done)), H', ⟨by first | omega | exact Nat.le_refl _⟩, ⟨by (with_reducible repeat (first | refine blk_drewN ?_ _ | refine blk_drew ?_ | refine blk_alloc ?_ _)); exact BK101.out⟩, ⟨by repeat (first | (with_reducible first | exact HB.out | apply below_alloc | apply pw_below_drewN | apply below_drew1 | refine below_set ?_ GE101.out) | exact HB.out)⟩⟩
    · rw [if_neg c5] at H
      have c5b0 : decide (a0_0 < 0) = false := decide_eq_false c5
      clear c5
      (first | rw [c5b0] | (simp only [i64_w, i32_w]; rw [c5b0]) | skip)
      by_cases c7 : a0_0 > 16
      · rw [if_pos c7] at H
        have c7b0 : decide (16 < a0_0) = true := decide_eq_true c7
        clear c7
        have H' := Aside0.mk H
        clear H
        have hcz8_0 : w3.cell? ⟨gb101, 0, none⟩ = some (.int .i64 a0_0) := (blk_cell BK101.out 0).trans rfl
        have hcz8_1 : w3.cell? ⟨gb101, 1, none⟩ = some (.int .i64 a0_1) := (blk_cell BK101.out 1).trans rfl
        have hcz8_2 : w3.cell? ⟨gb101, 2, none⟩ = some (.slice A0_2 l0_2.length c0_2) := (blk_cell BK101.out 2).trans rfl
        have hfz8_0 := blk_frozen BK101.out 0
        have hfz8_1 := blk_frozen BK101.out 1
        have hfz8_2 := blk_frozen BK101.out 2
        go_wp2
        go_meet
        case rel => exact ⟨_, (true), (by first | rfl | (simp; done) | (simp [*]; done)), H', ⟨by first | omega | exact Nat.le_refl _⟩, ⟨by (with_reducible repeat (first | refine blk_drewN ?_ _ | refine blk_drew ?_ | refine blk_alloc ?_ _)); exact BK101.out⟩, ⟨by repeat (first | (with_reducible first | exact HB.out | apply below_alloc | apply pw_below_drewN | apply below_drew1 | refine below_set ?_ GE101.out) | exact HB.out)⟩⟩
      · rw [if_neg c7] at H
        have c7b0 : decide (16 < a0_0) = false := decide_eq_false c7
        clear c7
        by_cases c9 : (l0_2.length : Int) < 1
        · rw [if_pos c9] at H
          have c9b0 : decide ((l0_2.length : Int) < 1) = true := decide_eq_true c9
          have c9b1 : decide (l0_2.length < 1) = true := decide_eq_true (by omega)
          clear c9
          have H' := Aside0.mk H
          clear H
          have hcz10_0 : w3.cell? ⟨gb101, 0, none⟩ = some (.int .i64 a0_0) := (blk_cell BK101.out 0).trans rfl
          have hcz10_1 : w3.cell? ⟨gb101, 1, none⟩ = some (.int .i64 a0_1) := (blk_cell BK101.out 1).trans rfl
          have hcz10_2 : w3.cell? ⟨gb101, 2, none⟩ = some (.slice A0_2 l0_2.length c0_2) := (blk_cell BK101.out 2).trans rfl
          have hfz10_0 := blk_frozen BK101.out 0
          have hfz10_1 := blk_frozen BK101.out 1
          have hfz10_2 := blk_frozen BK101.out 2
          go_wp2
          go_meet
          case rel => exact ⟨_, (true), (by first | rfl | (simp; done) | (simp [*]; done)), H', ⟨by first | omega | exact Nat.le_refl _⟩, ⟨by (with_reducible repeat (first | refine blk_drewN ?_ _ | refine blk_drew ?_ | refine blk_alloc ?_ _)); exact BK101.out⟩, ⟨by repeat (first | (with_reducible first | exact HB.out | apply below_alloc | apply pw_below_drewN | apply below_drew1 | refine below_set ?_ GE101.out) | exact HB.out)⟩⟩
        · rw [if_neg c9] at H
          have c9b0 : decide ((l0_2.length : Int) < 1) = false := decide_eq_false c9
          have c9b1 : decide (l0_2.length < 1) = false := decide_eq_false (by omega)
          clear c9
          by_cases c11 : (l0_2.length : Int) > 64
          · rw [if_pos c11] at H
            have c11b0 : decide (64 < (l0_2.length : Int)) = true := decide_eq_true c11
            have c11b1 : decide (64 < l0_2.length) = true := decide_eq_true (by omega)
            clear c11
            have H' := Aside0.mk H
            clear H
            have hcz12_0 : w3.cell? ⟨gb101, 0, none⟩ = some (.int .i64 a0_0) := (blk_cell BK101.out 0).trans rfl
            have hcz12_1 : w3.cell? ⟨gb101, 1, none⟩ = some (.int .i64 a0_1) := (blk_cell BK101.out 1).trans rfl
            have hcz12_2 : w3.cell? ⟨gb101, 2, none⟩ = some (.slice A0_2 l0_2.length c0_2) := (blk_cell BK101.out 2).trans rfl
            have hfz12_0 := blk_frozen BK101.out 0
            have hfz12_1 := blk_frozen BK101.out 1
            have hfz12_2 := blk_frozen BK101.out 2
            go_wp2
            go_meet
            case rel => exact ⟨_, (true), (by first | rfl | (simp; done) | (simp [*]; done)), H', ⟨by first | omega | exact Nat.le_refl _⟩, ⟨by (with_reducible repeat (first | refine blk_drewN ?_ _ | refine blk_drew ?_ | refine blk_alloc ?_ _)); exact BK101.out⟩, ⟨by repeat (first | (with_reducible first | exact HB.out | apply below_alloc | apply pw_below_drewN | apply below_drew1 | refine below_set ?_ GE101.out) | exact HB.out)⟩⟩
          · rw [if_neg c11] at H
            have c11b0 : decide (64 < (l0_2.length : Int)) = false := decide_eq_false c11
            have c11b1 : decide (64 < l0_2.length) = false := decide_eq_false (by omega)
            clear c11
            by_cases c13 : a0_1 < 0
            · rw [if_pos c13] at H
              have c13b0 : decide (a0_1 < 0) = true := decide_eq_true c13
              clear c13
              have H' := Aside0.mk H
              clear H
              have hcz14_0 : w3.cell? ⟨gb101, 0, none⟩ = some (.int .i64 a0_0) := (blk_cell BK101.out 0).trans rfl
              have hcz14_1 : w3.cell? ⟨gb101, 1, none⟩ = some (.int .i64 a0_1) := (blk_cell BK101.out 1).trans rfl
              have hcz14_2 : w3.cell? ⟨gb101, 2, none⟩ = some (.slice A0_2 l0_2.length c0_2) := (blk_cell BK101.out 2).trans rfl
              have hfz14_0 := blk_frozen BK101.out 0
              have hfz14_1 := blk_frozen BK101.out 1
              have hfz14_2 := blk_frozen BK101.out 2
              go_wp2
              go_meet
              case rel => exact ⟨_, (true), (by first | rfl | (simp; done) | (simp [*]; done)), H', ⟨by first | omega | exact Nat.le_refl _⟩, ⟨by (with_reducible repeat (first | refine blk_drewN ?_ _ | refine blk_drew ?_ | refine blk_alloc ?_ _)); exact BK101.out⟩, ⟨by repeat (first | (with_reducible first | exact HB.out | apply below_alloc | apply pw_below_drewN | apply below_drew1 | refine below_set ?_ GE101.out) | exact HB.out)⟩⟩
            · rw [if_neg c13] at H
              have c13b0 : decide (a0_1 < 0) = false := decide_eq_false c13
              clear c13
              have H' := Aside0.mk H
              clear H
              have hcz15_0 : w3.cell? ⟨gb101, 0, none⟩ = some (.int .i64 a0_0) := (blk_cell BK101.out 0).trans rfl
              have hcz15_1 : w3.cell? ⟨gb101, 1, none⟩ = some (.int .i64 a0_1) := (blk_cell BK101.out 1).trans rfl
              have hcz15_2 : w3.cell? ⟨gb101, 2, none⟩ = some (.slice A0_2 l0_2.length c0_2) := (blk_cell BK101.out 2).trans rfl
              have hfz15_0 := blk_frozen BK101.out 0
              have hfz15_1 := blk_frozen BK101.out 1
              have hfz15_2 := blk_frozen BK101.out 2
              go_wp2
              go_meet
              case rel => exact ⟨_, (decide (a0_1 ≥ (l0_2.length : Int))), (by first | rfl | (simp; done) | (simp [*]; done)), H', ⟨by first | omega | exact Nat.le_refl _⟩, ⟨by (with_reducible repeat (first | refine blk_drewN ?_ _ | refine blk_drew ?_ | refine blk_alloc ?_ _)); exact BK101.out⟩, ⟨by repeat (first | (with_reducible first | exact HB.out | apply below_alloc | apply pw_below_drewN | apply below_drew1 | refine below_set ?_ GE101.out) | exact HB.out)⟩⟩
  case rest =>
    clear HC2
    try clear c1
    try clear c2
    try clear p2
    try clear c5
    try clear c5b0
    try clear c7
    try clear c7b0
    try clear c9
    try clear c9b0
    try clear c9b1
    try clear c11
    try clear c11b0
    try clear c11b1
    try clear c13
    try clear c13b0
    try clear hcz10_0
    try clear hcz10_1
    try clear hcz10_2
    try clear hcz12_0
    try clear hcz12_1
    try clear hcz12_2
    try clear hcz14_0
    try clear hcz14_1
    try clear hcz14_2
    try clear hcz15_0
    try clear hcz15_1
    try clear hcz15_2
    try clear hcz4_0
    try clear hcz4_1
    try clear hcz4_2
    try clear hcz6_0
    try clear hcz6_1
    try clear hcz6_2
    try clear hcz8_0
    try clear hcz8_1
    try clear hcz8_2
    try clear hfz10_0
    try clear hfz10_1
    try clear hfz10_2
    try clear hfz12_0
    try clear hfz12_1
    try clear hfz12_2
    try clear hfz14_0
    try clear hfz14_1
    try clear hfz14_2
    try clear hfz15_0
    try clear hfz15_1
    try clear hfz15_2
    try clear hfz4_0
    try clear hfz4_1
    try clear hfz4_2
    try clear hfz6_0
    try clear hfz6_1
    try clear hfz6_2
    try clear hfz8_0
    try clear hfz8_1
    try clear hfz8_2
    obtain ⟨kq, x37_1, rfl, HA, HJ1, BK101, HB⟩ := hcut
    cases kq with
    | zero => exact absurd HA.out (by simp [virgationref11_Is.j0])
    | succ kj1 =>
      have H := HA.out
      clear HA
      simp only [virgationref11_Is.j0] at H
      by_cases c16 : x37_1 = true
      · subst c16
        have H1 : (some false) = some r := by rw [if_pos rfl] at H; exact H
        clear H
        have H := H1
        clear H1
        obtain rfl := Option.some.inj H
        go_wp2
        go_ret
        exact ⟨by first | rfl | (simp [errW_none, errW_some] <;> rfl) | (simp [*, errW_none, errW_some] <;> rfl), by repeat (first | (with_reducible first | exact HB.out | apply below_alloc | apply pw_below_drewN | apply below_drew1 | refine below_set ?_ GE101.out) | exact HB.out)⟩
      · replace c16 := Bool.eq_false_iff.mpr c16
        subst c16
        have H1 : (virgationref11_Is.l0 kj1 (l0_2.length : Int) l0_2 (l0_2.length : Int) 0 a0_0 a0_1 l0_2) = some r := by rw [if_neg (show ¬ (false = true) by decide)] at H; exact H
        clear H
        have H := H1
        clear H1
        have H' := Aside0.mk H
        clear H
        have hcz17_0 : wc.cell? ⟨gb101, 0, none⟩ = some (.int .i64 a0_0) := (blk_cell BK101.out 0).trans rfl
        have hcz17_1 : wc.cell? ⟨gb101, 1, none⟩ = some (.int .i64 a0_1) := (blk_cell BK101.out 1).trans rfl
        have hcz17_2 : wc.cell? ⟨gb101, 2, none⟩ = some (.slice A0_2 l0_2.length c0_2) := (blk_cell BK101.out 2).trans rfl
        have hfz17_0 := blk_frozen BK101.out 0
        have hfz17_1 := blk_frozen BK101.out 1
        have hfz17_2 := blk_frozen BK101.out 2
        go_wp2
        go_loopg [41] kj1 (fun kq v41 w' => ∃ (x41_2 : Int), v41 = .int .i64 x41_2 ∧ Aside0 (virgationref11_Is.l0 kq (l0_2.length : Int) l0_2 (l0_2.length : Int) x41_2 a0_0 a0_1 l0_2 = some r) ∧ Aside0 (kq ≤ kj1) ∧ Aside0 (w'.heap[gb101]? = some (.cells #[.int .i64 a0_0, .int .i64 a0_1, (.slice A0_2 l0_2.length c0_2)] 24 (0, 0))) ∧ Aside0 (Below w.heap.size w w'))
        case atStart => exact ⟨(0), (by first | rfl | (simp; done) | (simp [*]; done)), H', ⟨Nat.le_refl _⟩, ⟨by (with_reducible repeat (first | refine blk_drewN ?_ _ | refine blk_drew ?_ | refine blk_alloc ?_ _)); exact BK101.out⟩, ⟨by repeat (first | (with_reducible first | exact HB.out | apply below_alloc | apply pw_below_drewN | apply below_drew1 | refine below_set ?_ GE101.out) | exact HB.out)⟩⟩
        case round =>
          clear H'
          try clear c1
          try clear c2
          try clear p2
          try clear c5
          try clear c5b0
          try clear c7
          try clear c7b0
          try clear c9
          try clear c9b0
          try clear c9b1
          try clear c11
          try clear c11b0
          try clear c11b1
          try clear c13
          try clear c13b0
          try clear c16
          try clear hcz10_0
          try clear hcz10_1
          try clear hcz10_2
          try clear hcz12_0
          try clear hcz12_1
          try clear hcz12_2
          try clear hcz14_0
          try clear hcz14_1
          try clear hcz14_2
          try clear hcz15_0
          try clear hcz15_1
          try clear hcz15_2
          try clear hcz17_0
          try clear hcz17_1
          try clear hcz17_2
          try clear hcz4_0
          try clear hcz4_1
          try clear hcz4_2
          try clear hcz6_0
          try clear hcz6_1
          try clear hcz6_2
          try clear hcz8_0
          try clear hcz8_1
          try clear hcz8_2
          try clear hfz10_0
          try clear hfz10_1
          try clear hfz10_2
          try clear hfz12_0
          try clear hfz12_1
          try clear hfz12_2
          try clear hfz14_0
          try clear hfz14_1
          try clear hfz14_2
          try clear hfz15_0
          try clear hfz15_1
          try clear hfz15_2
          try clear hfz17_0
          try clear hfz17_1
          try clear hfz17_2
          try clear hfz4_0
          try clear hfz4_1
          try clear hfz4_2
          try clear hfz6_0
          try clear hfz6_1
          try clear hfz6_2
          try clear hfz8_0
          try clear hfz8_1
          try clear hfz8_2
          try clear p2
          obtain ⟨x41_2, rfl, HA, HK2, BK101, HB⟩ := hrel
          cases gk with
          | zero => exact absurd HA.out (by simp [virgationref11_Is.l0])
          | succ k2 =>
            have H := HA.out
            clear HA
            simp only [virgationref11_Is.l0] at H
            by_cases c18 : x41_2 < (l0_2.length : Int)
            · rw [if_pos c18] at H
              have c18b0 : decide (x41_2 < (l0_2.length : Int)) = true := decide_eq_true c18
              clear c18
              by_cases c19 : 0 ≤ x41_2
              · rw [if_pos c19] at H
                have c19b0 : decide (0 ≤ x41_2) = true := decide_eq_true c19
                clear c19
                by_cases c20 : x41_2 < (l0_2.length : Int)
                · rw [if_pos c20] at H
                  have c20b0 : decide (x41_2 < (l0_2.length : Int)) = true := decide_eq_true c20
                  clear c20
                  by_cases c21 : ((rd_L1 l0_2 x41_2).length : Int) = a0_0
                  · rw [if_pos c21] at H
                    have c21b0 : (((rd_L1 l0_2 x41_2).length : Int) == a0_0) = true := beq_iff_eq.mpr c21
                    have c21b1 : (((rd_L1 l0_2 x41_2).length : Int) != a0_0) = false := bne_eq_false_iff_eq.mpr c21
                    clear c21
                    have H' := Aside0.mk H
                    clear H
                    have p102 : 0 ≤ (x41_2 : Int) := of_decide_eq_true (by first | (with_reducible assumption) | assumption)
                    have q102 : x41_2 < (l0_2.length : Int) := of_decide_eq_true (by first | (with_reducible assumption) | assumption)
                    obtain ⟨ad102, A102_0, c102_0, e102, hx102_0, hl102_0, hi102_0⟩ := at_L1 HR0_2.out x41_2 p102 q102
                    cases e102
                    replace hx102_0 := (HB.out.cell (World.block_lt_of_cell? w _ hx102_0)).trans hx102_0
                    have HR102_0 := Aside0.mk hi102_0
                    have HC102_0 := Aside0.mk hl102_0
                    clear hi102_0 hl102_0
                    replace p102 := eq_true p102
                    replace q102 := eq_true q102
                    have hcz22_0 : wr.cell? ⟨gb101, 0, none⟩ = some (.int .i64 a0_0) := (blk_cell BK101.out 0).trans rfl
                    have hcz22_1 : wr.cell? ⟨gb101, 1, none⟩ = some (.int .i64 a0_1) := (blk_cell BK101.out 1).trans rfl
                    have hcz22_2 : wr.cell? ⟨gb101, 2, none⟩ = some (.slice (some ad102) l0_2.length c0_2) := (blk_cell BK101.out 2).trans rfl
                    have hfz22_0 := blk_frozen BK101.out 0
                    have hfz22_1 := blk_frozen BK101.out 1
                    have hfz22_2 := blk_frozen BK101.out 2
                    go_wp2
                    go_loopg [52] k2 (fun kq v52 w' => ∃ (x52_3 : Int), v52 = .int .i64 x52_3 ∧ Aside0 (virgationref11_Is.l1 kq (l0_2.length : Int) l0_2 (l0_2.length : Int) x41_2 (rd_L1 l0_2 x41_2) ((rd_L1 l0_2 x41_2).length : Int) x52_3 a0_0 a0_1 l0_2 = some r) ∧ Aside0 (kq ≤ k2) ∧ Aside0 (w'.heap[gb101]? = some (.cells #[.int .i64 a0_0, .int .i64 a0_1, (.slice (some ad102) l0_2.length c0_2)] 24 (0, 0))) ∧ Aside0 (Below w.heap.size w w'))
                    case atStart => exact ⟨(0), (by first | rfl | (simp; done) | (simp [*]; done)), H', ⟨Nat.le_refl _⟩, ⟨by (with_reducible repeat (first | refine blk_drewN ?_ _ | refine blk_drew ?_ | refine blk_alloc ?_ _)); exact BK101.out⟩, ⟨by repeat (first | (with_reducible first | exact HB.out | apply below_alloc | apply pw_below_drewN | apply below_drew1 | refine below_set ?_ GE101.out) | exact HB.out)⟩⟩
                    case round =>
                      clear H'
                      try clear c1
                      try clear p1
                      try clear q1
                      try clear hx1
                      try clear c2
                      try clear p2
                      try clear c5
                      try clear c5b0
                      try clear c7
                      try clear c7b0
                      try clear c9
                      try clear c9b0
                      try clear c9b1
                      try clear c10
                      try clear p10
                      try clear q10
                      try clear hx10
                      try clear c11
                      try clear c11b0
                      try clear c11b1
                      try clear c13
                      try clear c13b0
                      try clear c16
                      try clear c18
                      try clear c18b0
                      try clear c19
                      try clear c19b0
                      try clear c20
                      try clear c20b0
                      try clear c21
                      try clear c21b0
                      try clear c21b1
                      try clear hcz10_0
                      try clear hcz10_1
                      try clear hcz10_2
                      try clear hcz12_0
                      try clear hcz12_1
                      try clear hcz12_2
                      try clear hcz14_0
                      try clear hcz14_1
                      try clear hcz14_2
                      try clear hcz15_0
                      try clear hcz15_1
                      try clear hcz15_2
                      try clear hcz17_0
                      try clear hcz17_1
                      try clear hcz17_2
                      try clear hcz22_0
                      try clear hcz22_1
                      try clear hcz22_2
                      try clear hcz4_0
                      try clear hcz4_1
                      try clear hcz4_2
                      try clear hcz6_0
                      try clear hcz6_1
                      try clear hcz6_2
                      try clear hcz8_0
                      try clear hcz8_1
                      try clear hcz8_2
                      try clear hfz10_0
                      try clear hfz10_1
                      try clear hfz10_2
                      try clear hfz12_0
                      try clear hfz12_1
                      try clear hfz12_2
                      try clear hfz14_0
                      try clear hfz14_1
                      try clear hfz14_2
                      try clear hfz15_0
                      try clear hfz15_1
                      try clear hfz15_2
                      try clear hfz17_0
                      try clear hfz17_1
                      try clear hfz17_2
                      try clear hfz22_0
                      try clear hfz22_1
                      try clear hfz22_2
                      try clear hfz4_0
                      try clear hfz4_1
                      try clear hfz4_2
                      try clear hfz6_0
                      try clear hfz6_1
                      try clear hfz6_2
                      try clear hfz8_0
                      try clear hfz8_1
                      try clear hfz8_2
                      try clear hx102_0
                      try clear p102
                      try clear p2
                      try clear q102
                      obtain ⟨x52_3, rfl, HA, HK3, BK101, HB⟩ := hrel
                      cases gk with
                      | zero => exact absurd HA.out (by simp [virgationref11_Is.l1])
                      | succ k3 =>
                        have H := HA.out
                        clear HA
                        simp only [virgationref11_Is.l1] at H
                        by_cases c23 : x52_3 < ((rd_L1 l0_2 x41_2).length : Int)
                        · rw [if_pos c23] at H
                          have c23b0 : decide (x52_3 < ((rd_L1 l0_2 x41_2).length : Int)) = true := decide_eq_true c23
                          clear c23
                          by_cases c24 : 0 ≤ x52_3
                          · rw [if_pos c24] at H
                            have c24b0 : decide (0 ≤ x52_3) = true := decide_eq_true c24
                            clear c24
                            by_cases c25 : x52_3 < ((rd_L1 l0_2 x41_2).length : Int)
                            · rw [if_pos c25] at H
                              have c25b0 : decide (x52_3 < ((rd_L1 l0_2 x41_2).length : Int)) = true := decide_eq_true c25
                              clear c25
                              by_cases c26 : (rd (rd_L1 l0_2 x41_2) x52_3) < (-1)
                              · rw [if_pos c26] at H
                                have c26b0 : decide ((rd (rd_L1 l0_2 x41_2) x52_3) < (-1)) = true := decide_eq_true c26
                                clear c26
                                obtain rfl := Option.some.inj H
                                have p103 : 0 ≤ (x52_3 : Int) := of_decide_eq_true (by first | (with_reducible assumption) | assumption)
                                have q103 : x52_3 < ((rd_L1 l0_2 x41_2).length : Int) := of_decide_eq_true (by first | (with_reducible assumption) | assumption)
                                obtain ⟨ad103, e103, hx103_0⟩ := Kd.at_int HR102_0.out x52_3 p103 q103
                                cases e103
                                replace hx103_0 := (HB.out.cell (World.block_lt_of_cell? w _ hx103_0)).trans hx103_0
                                replace p103 := eq_true p103
                                replace q103 := eq_true q103
                                go_wp2
                                go_ret
                                exact ⟨by first | rfl | (simp [errW_none, errW_some] <;> rfl) | (simp [*, errW_none, errW_some] <;> rfl), by repeat (first | (with_reducible first | exact HB.out | apply below_alloc | apply pw_below_drewN | apply below_drew1 | refine below_set ?_ GE101.out) | exact HB.out)⟩
                              · rw [if_neg c26] at H
                                have c26b0 : decide ((rd (rd_L1 l0_2 x41_2) x52_3) < (-1)) = false := decide_eq_false c26
                                clear c26
                                by_cases c27 : (rd (rd_L1 l0_2 x41_2) x52_3) ≥ (l0_2.length : Int)
                                · rw [if_pos c27] at H
                                  have c27b0 : decide ((l0_2.length : Int) ≤ (rd (rd_L1 l0_2 x41_2) x52_3)) = true := decide_eq_true c27
                                  clear c27
                                  obtain rfl := Option.some.inj H
                                  have p103 : 0 ≤ (x52_3 : Int) := of_decide_eq_true (by first | (with_reducible assumption) | assumption)
                                  have q103 : x52_3 < ((rd_L1 l0_2 x41_2).length : Int) := of_decide_eq_true (by first | (with_reducible assumption) | assumption)
                                  obtain ⟨ad103, e103, hx103_0⟩ := Kd.at_int HR102_0.out x52_3 p103 q103
                                  cases e103
                                  replace hx103_0 := (HB.out.cell (World.block_lt_of_cell? w _ hx103_0)).trans hx103_0
                                  replace p103 := eq_true p103
                                  replace q103 := eq_true q103
                                  go_wp2
                                  go_ret
                                  exact ⟨by first | rfl | (simp [errW_none, errW_some] <;> rfl) | (simp [*, errW_none, errW_some] <;> rfl), by repeat (first | (with_reducible first | exact HB.out | apply below_alloc | apply pw_below_drewN | apply below_drew1 | refine below_set ?_ GE101.out) | exact HB.out)⟩
                                · rw [if_neg c27] at H
                                  have c27b0 : decide ((l0_2.length : Int) ≤ (rd (rd_L1 l0_2 x41_2) x52_3)) = false := decide_eq_false c27
                                  clear c27
                                  have H' := Aside0.mk H
                                  clear H
                                  have p103 : 0 ≤ (x52_3 : Int) := of_decide_eq_true (by first | (with_reducible assumption) | assumption)
                                  have q103 : x52_3 < ((rd_L1 l0_2 x41_2).length : Int) := of_decide_eq_true (by first | (with_reducible assumption) | assumption)
                                  obtain ⟨ad103, e103, hx103_0⟩ := Kd.at_int HR102_0.out x52_3 p103 q103
                                  cases e103
                                  replace hx103_0 := (HB.out.cell (World.block_lt_of_cell? w _ hx103_0)).trans hx103_0
                                  replace p103 := eq_true p103
                                  replace q103 := eq_true q103
                                  go_wp2
                                  go_roundg k3
                                  case measure => have := HJ1.out; have := HK2.out; have := HK3.out; omega
                                  case rel => exact ⟨(wrap64 (x52_3 + 1)), (by first | rfl | (simp; done) | (simp [*]; done)), H', ⟨by have := HJ1.out; have := HK2.out; have := HK3.out; omega⟩, ⟨by (with_reducible repeat (first | refine blk_drewN ?_ _ | refine blk_drew ?_ | refine blk_alloc ?_ _)); exact BK101.out⟩, ⟨by repeat (first | (with_reducible first | exact HB.out | apply below_alloc | apply pw_below_drewN | apply below_drew1 | refine below_set ?_ GE101.out) | exact HB.out)⟩⟩
                            · rw [if_neg c25] at H
                              exact absurd H (by simp)
                          · rw [if_neg c24] at H
                            exact absurd H (by simp)
                        · rw [if_neg c23] at H
                          have c23b0 : decide (x52_3 < ((rd_L1 l0_2 x41_2).length : Int)) = false := decide_eq_false c23
                          clear c23
                          have H' := Aside0.mk H
                          clear H
                          go_wp2
                          go_roundg k3
                          case measure => have := HJ1.out; have := HK2.out; have := HK3.out; omega
                          case rel => exact ⟨(wrap64 (x41_2 + 1)), (by first | rfl | (simp; done) | (simp [*]; done)), H', ⟨by have := HJ1.out; have := HK2.out; have := HK3.out; omega⟩, ⟨by (with_reducible repeat (first | refine blk_drewN ?_ _ | refine blk_drew ?_ | refine blk_alloc ?_ _)); exact BK101.out⟩, ⟨by repeat (first | (with_reducible first | exact HB.out | apply below_alloc | apply pw_below_drewN | apply below_drew1 | refine below_set ?_ GE101.out) | exact HB.out)⟩⟩
                  · rw [if_neg c21] at H
                    have c21b0 : (((rd_L1 l0_2 x41_2).length : Int) == a0_0) = false := beq_eq_false_iff_ne.mpr c21
                    have c21b1 : (((rd_L1 l0_2 x41_2).length : Int) != a0_0) = true := bne_iff_ne.mpr c21
                    obtain rfl := Option.some.inj H
                    have p102 : 0 ≤ (x41_2 : Int) := of_decide_eq_true (by first | (with_reducible assumption) | assumption)
                    have q102 : x41_2 < (l0_2.length : Int) := of_decide_eq_true (by first | (with_reducible assumption) | assumption)
                    obtain ⟨ad102, A102_0, c102_0, e102, hx102_0, hl102_0, hi102_0⟩ := at_L1 HR0_2.out x41_2 p102 q102
                    cases e102
                    replace hx102_0 := (HB.out.cell (World.block_lt_of_cell? w _ hx102_0)).trans hx102_0
                    have HR102_0 := Aside0.mk hi102_0
                    have HC102_0 := Aside0.mk hl102_0
                    clear hi102_0 hl102_0
                    replace p102 := eq_true p102
                    replace q102 := eq_true q102
                    have hcz28_0 : wr.cell? ⟨gb101, 0, none⟩ = some (.int .i64 a0_0) := (blk_cell BK101.out 0).trans rfl
                    have hcz28_1 : wr.cell? ⟨gb101, 1, none⟩ = some (.int .i64 a0_1) := (blk_cell BK101.out 1).trans rfl
                    have hcz28_2 : wr.cell? ⟨gb101, 2, none⟩ = some (.slice (some ad102) l0_2.length c0_2) := (blk_cell BK101.out 2).trans rfl
                    have hfz28_0 := blk_frozen BK101.out 0
                    have hfz28_1 := blk_frozen BK101.out 1
                    have hfz28_2 := blk_frozen BK101.out 2
                    go_wp2
                    go_ret
                    exact ⟨by first | rfl | (simp [errW_none, errW_some] <;> rfl) | (simp [*, errW_none, errW_some] <;> rfl), by repeat (first | (with_reducible first | exact HB.out | apply below_alloc | apply pw_below_drewN | apply below_drew1 | refine below_set ?_ GE101.out) | exact HB.out)⟩
                · rw [if_neg c20] at H
                  exact absurd H (by simp)
              · rw [if_neg c19] at H
                exact absurd H (by simp)
            · rw [if_neg c18] at H
              have c18b0 : decide (x41_2 < (l0_2.length : Int)) = false := decide_eq_false c18
              clear c18
              obtain rfl := Option.some.inj H
              go_wp2
              go_ret
              exact ⟨by first | rfl | (simp [errW_none, errW_some] <;> rfl) | (simp [*, errW_none, errW_some] <;> rfl), by repeat (first | (with_reducible first | exact HB.out | apply below_alloc | apply pw_below_drewN | apply below_drew1 | refine below_set ?_ GE101.out) | exact HB.out)⟩
end Go.Proofs.Ytmphigeefppfpaa.Q
namespace Go.Proofs.Ytmphigeefppfpaa.H
open Go.RowKit Go.Proofs.YtmphigeefppfpaaW.PrintWords Go.Proofs.YtmphigeefppfpaaW.PrintLast Go.Proofs.YtmphigeefppfpaaW.PrintMore
/-- Read's answer as a value. -/
def tri (r : Int × Int × Int) : Value := .tuple #[.int .i64 r.1, .int .i64 r.2.1, .int .i64 r.2.2]
theorem read_calls (ev st : Int) (A : Option Addr) (c : Nat) (l : List (List Int)) (A1 : Option Addr) (c1 : Nat) (xs : List Int) (w : World) (hr : Kd.C (Kd.slice 3 (Kd.int .i64)) w A l.length l) (hr1 : Kd.C (Kd.int .i64) w A1 xs.length xs) :
    Calls Try.prog 14 #[.agg #[.int .i64 ev, .int .i64 st, .slice A l.length c], .slice A1 xs.length c1] w fun e w' => e = .returned (tri (readVal ev st l xs)) ∧ Below w.heap.size w w' := by
  unfold readVal
  cases h : specOk ev st l with
  | false => exact read_bad ev st A c l A1 c1 xs w hr h
  | true =>
    by_cases hx : xs.length > 4096
    · rw [if_neg (by simp), if_pos hx]
      exact read_long ev st A c l A1 c1 xs w hr h hx
    · cases he : xs.any (evBad ev) with
      | true =>
        rw [if_neg (by simp), if_neg hx, if_pos rfl]
        exact read_arg ev st A c l A1 c1 xs w hr hr1 h hx he
      | false =>
        rw [if_neg (by simp), if_neg hx, if_neg (by simp)]
        exact read_go ev st A c l A1 c1 xs w hr hr1 h hx he
theorem blk_new' {W : World} {k : Nat} (o : Obj) (h : W.heap.size = k) : (W.alloc o).heap[k]? = some o := h ▸ blk_new W o
theorem ints_of_block {W : World} {b : Nat} {t : TypeId} {zs : List Int} (hm : zs.length ≤ 9223372036854775807) (h : W.heap[b]? = some (.cells (zs.map (Value.int .i64)).toArray t (0, 0))) : Kd.C (Kd.int .i64) W (some ⟨b, 0, none⟩) zs.length zs := by
  refine ⟨rfl, hm, fun _ => ⟨_, rfl, fun j p hj => ⟨[.int .i64 p], rfl, rfl, fun i u hu => ?_⟩⟩⟩
  cases i with
  | zero =>
    have hu' : Value.int .i64 p = u := by simpa using hu
    subst hu'
    rw [add_plain, blk_cell h]
    simp [Kd.int, Kd.scalar, hj]
  | succ i => simp at hu
theorem rows2_of_blocks {W : World} {b b0 b1 : Nat} {t : TypeId} {x y : List Int} {cx cy : Nat} (hx : Kd.C (Kd.int .i64) W (some ⟨b0, 0, none⟩) x.length x) (hy : Kd.C (Kd.int .i64) W (some ⟨b1, 0, none⟩) y.length y) (hcx : x.length ≤ cx) (hcy : y.length ≤ cy)
    (h : W.heap[b]? = some (.cells #[.slice (some ⟨b0, 0, none⟩) x.length cx, .slice (some ⟨b1, 0, none⟩) y.length cy] t (0, 0))) : Kd.C (Kd.slice 3 (Kd.int .i64)) W (some ⟨b, 0, none⟩) 2 [x, y] := by
  refine ⟨rfl, by omega, fun _ => ⟨_, rfl, fun j p hj => ?_⟩⟩
  match j, hj with
  | 0, hj =>
    obtain rfl : x = p := by simpa using hj
    refine ⟨[.slice (some ⟨b0, 0, none⟩) x.length cx], rfl, ⟨_, _, rfl, hcx, hx⟩, fun i u hu => ?_⟩
    cases i with
    | zero =>
      obtain rfl : _ = u := by simpa using hu
      rw [add_plain, blk_cell h]; simp [Kd.slice]
    | succ i => simp at hu
  | 1, hj =>
    obtain rfl : y = p := by simpa using hj
    refine ⟨[.slice (some ⟨b1, 0, none⟩) y.length cy], rfl, ⟨_, _, rfl, hcy, hy⟩, fun i u hu => ?_⟩
    cases i with
    | zero =>
      obtain rfl : _ = u := by simpa using hu
      rw [add_plain, blk_cell h]; simp [Kd.slice]
    | succ i => simp at hu
  | j + 2, hj => simp at hj
def exL : List (List Int) := [[1, -1], [-1, 0]]
theorem ex1 : readVal 2 0 exL [0, 1, 0] = (1, 3, 0) := by decide +kernel
theorem ex2 : readVal 2 0 exL [0, 0] = (-1, 1, 0) := by decide +kernel
set_option maxHeartbeats 1000000 in
theorem alive_calls (w : World) : Calls Try.prog 16 #[] w fun e w' => e = .returned (.bool true) ∧ Below w.heap.size w w' := by
  go_enter Try.func16, Try.ntmps16
  go_wp2_with fail
  have hB0 := Aside0.mk ((by repeat (first | exact Below.refl _ _ | apply below_alloc)) : Below w.heap.size w (((((w.alloc (Obj.cells #[Value.int IntKind.i64 1, Value.int IntKind.i64 (-1)] 3)).alloc (Obj.cells #[Value.int IntKind.i64 (-1), Value.int IntKind.i64 0] 3)).alloc (Obj.cells #[Value.slice (some { block := w.heap.size, off := 0 }) 2 2, Value.slice (some { block := w.heap.size + 1, off := 0 }) 2 2] 25)).alloc (Obj.cells #[Value.int IntKind.i64 2, Value.int IntKind.i64 0, Value.slice (some { block := w.heap.size + 1 + 1, off := 0 }) 2 2] 24)).alloc (Obj.cells #[Value.int IntKind.i64 0, Value.int IntKind.i64 1, Value.int IntKind.i64 0] 3)))
  have h0 := Aside0.mk (blk_alloc (blk_alloc (blk_alloc (blk_alloc (blk_new w (Obj.cells #[Value.int IntKind.i64 1, Value.int IntKind.i64 (-1)] 3)) (Obj.cells #[Value.int IntKind.i64 (-1), Value.int IntKind.i64 0] 3)) (Obj.cells #[Value.slice (some { block := w.heap.size, off := 0 }) 2 2, Value.slice (some { block := w.heap.size + 1, off := 0 }) 2 2] 25)) (Obj.cells #[Value.int IntKind.i64 2, Value.int IntKind.i64 0, Value.slice (some { block := w.heap.size + 1 + 1, off := 0 }) 2 2] 24)) (Obj.cells #[Value.int IntKind.i64 0, Value.int IntKind.i64 1, Value.int IntKind.i64 0] 3))
  have h1 := Aside0.mk (blk_alloc (blk_alloc (blk_alloc (blk_new' (W := w.alloc (Obj.cells #[Value.int IntKind.i64 1, Value.int IntKind.i64 (-1)] 3)) (k := w.heap.size + 1) (Obj.cells #[Value.int IntKind.i64 (-1), Value.int IntKind.i64 0] 3) (by simp)) (Obj.cells #[Value.slice (some { block := w.heap.size, off := 0 }) 2 2, Value.slice (some { block := w.heap.size + 1, off := 0 }) 2 2] 25)) (Obj.cells #[Value.int IntKind.i64 2, Value.int IntKind.i64 0, Value.slice (some { block := w.heap.size + 1 + 1, off := 0 }) 2 2] 24)) (Obj.cells #[Value.int IntKind.i64 0, Value.int IntKind.i64 1, Value.int IntKind.i64 0] 3))
  have h2 := Aside0.mk (blk_alloc (blk_alloc (blk_new' (W := (w.alloc (Obj.cells #[Value.int IntKind.i64 1, Value.int IntKind.i64 (-1)] 3)).alloc (Obj.cells #[Value.int IntKind.i64 (-1), Value.int IntKind.i64 0] 3)) (k := w.heap.size + 1 + 1) (Obj.cells #[Value.slice (some { block := w.heap.size, off := 0 }) 2 2, Value.slice (some { block := w.heap.size + 1, off := 0 }) 2 2] 25) (by simp)) (Obj.cells #[Value.int IntKind.i64 2, Value.int IntKind.i64 0, Value.slice (some { block := w.heap.size + 1 + 1, off := 0 }) 2 2] 24)) (Obj.cells #[Value.int IntKind.i64 0, Value.int IntKind.i64 1, Value.int IntKind.i64 0] 3))
  have h3 := Aside0.mk (blk_alloc (blk_new' (W := ((w.alloc (Obj.cells #[Value.int IntKind.i64 1, Value.int IntKind.i64 (-1)] 3)).alloc (Obj.cells #[Value.int IntKind.i64 (-1), Value.int IntKind.i64 0] 3)).alloc (Obj.cells #[Value.slice (some { block := w.heap.size, off := 0 }) 2 2, Value.slice (some { block := w.heap.size + 1, off := 0 }) 2 2] 25)) (k := w.heap.size + 1 + 1 + 1) (Obj.cells #[Value.int IntKind.i64 2, Value.int IntKind.i64 0, Value.slice (some { block := w.heap.size + 1 + 1, off := 0 }) 2 2] 24) (by simp)) (Obj.cells #[Value.int IntKind.i64 0, Value.int IntKind.i64 1, Value.int IntKind.i64 0] 3))
  have h4 := Aside0.mk (blk_new' (W := (((w.alloc (Obj.cells #[Value.int IntKind.i64 1, Value.int IntKind.i64 (-1)] 3)).alloc (Obj.cells #[Value.int IntKind.i64 (-1), Value.int IntKind.i64 0] 3)).alloc (Obj.cells #[Value.slice (some { block := w.heap.size, off := 0 }) 2 2, Value.slice (some { block := w.heap.size + 1, off := 0 }) 2 2] 25)).alloc (Obj.cells #[Value.int IntKind.i64 2, Value.int IntKind.i64 0, Value.slice (some { block := w.heap.size + 1 + 1, off := 0 }) 2 2] 24)) (k := w.heap.size + 1 + 1 + 1 + 1) (Obj.cells #[Value.int IntKind.i64 0, Value.int IntKind.i64 1, Value.int IntKind.i64 0] 3) (by simp))
  generalize (((((w.alloc (Obj.cells #[Value.int IntKind.i64 1, Value.int IntKind.i64 (-1)] 3)).alloc (Obj.cells #[Value.int IntKind.i64 (-1), Value.int IntKind.i64 0] 3)).alloc (Obj.cells #[Value.slice (some { block := w.heap.size, off := 0 }) 2 2, Value.slice (some { block := w.heap.size + 1, off := 0 }) 2 2] 25)).alloc (Obj.cells #[Value.int IntKind.i64 2, Value.int IntKind.i64 0, Value.slice (some { block := w.heap.size + 1 + 1, off := 0 }) 2 2] 24)).alloc (Obj.cells #[Value.int IntKind.i64 0, Value.int IntKind.i64 1, Value.int IntKind.i64 0] 3)) = W at *
  have HC0 := Aside0.mk (rows2_of_blocks (x := [1, -1]) (y := [-1, 0]) (cx := 2) (cy := 2) (ints_of_block (by decide) h0.out) (ints_of_block (by decide) h1.out) (by decide) (by decide) h2.out)
  have HC1 := Aside0.mk (ints_of_block (zs := [0, 1, 0]) (by decide) h4.out)
  refine (read_calls 2 0 (some ⟨w.heap.size + 1 + 1, 0, none⟩) 2 exL (some ⟨w.heap.size + 1 + 1 + 1 + 1, 0, none⟩) 3 [0, 1, 0] W HC0.out HC1.out).mono ?_
  rw [ex1]
  rintro e w1 ⟨rfl, hb⟩
  have HB1 := Aside0.mk (below_then hB0.out (hB0.out).size hb)
  have hC0 := Aside0.mk (Kd.C_below HC0.out hb)
  have h3' := Aside0.mk (blk_below h3.out hb)
  clear h0 h1 h2 h3 h4 HC0 HC1 hB0 hb
  unfold tri
  have hz0 : w1.cell? ⟨w.heap.size + 1 + 1 + 1, 0, none⟩ = some (.int .i64 2) := (blk_cell h3'.out 0).trans rfl
  have hz1 : w1.cell? ⟨w.heap.size + 1 + 1 + 1, 1, none⟩ = some (.int .i64 0) := (blk_cell h3'.out 1).trans rfl
  have hz2 : w1.cell? ⟨w.heap.size + 1 + 1 + 1, 2, none⟩ = some (.slice (some ⟨w.heap.size + 1 + 1, 0, none⟩) 2 2) := (blk_cell h3'.out 2).trans rfl
  go_wp2_with fail
  have HC1 := Aside0.mk (ints_of_block (zs := [0, 0]) (by decide) (blk_new w1 (Obj.cells #[Value.int IntKind.i64 0, Value.int IntKind.i64 0] 3)))
  refine (read_calls 2 0 (some ⟨w.heap.size + 1 + 1, 0, none⟩) 2 exL (some ⟨w1.heap.size, 0, none⟩) 2 [0, 0] _ (Kd.C_below hC0.out (below_alloc (Below.refl _ _) _)) HC1.out).mono ?_
  rw [ex2]
  rintro e w2 ⟨rfl, hb⟩
  have HB2 := Aside0.mk (below_then (below_alloc HB1.out _) (below_alloc HB1.out _).size hb)
  clear hb HC1 hC0 h3' HB1
  unfold tri
  go_wp2
  go_ret
  exact ⟨rfl, HB2.out⟩
end Go.Proofs.Ytmphigeefppfpaa.H
namespace Go.Proofs.Ytmphigeefppfpaa.H
open Go.RowKit Go.Proofs.YtmphigeefppfpaaW.PrintWords Go.Proofs.YtmphigeefppfpaaW.PrintLast Go.Proofs.YtmphigeefppfpaaW.PrintMore
open Q
theorem wrap_succ {i : Int} (h0 : 0 ≤ i) (h1 : i < 9223372036854775807) : wrap64 (i + 1) = i + 1 := by
  unfold wrap64; omega
def qOk (n x : Int) : Bool := decide (-1 ≤ x) && decide (x < n)
theorem all_drop {α : Type} {p : α → Bool} {xs : List α} {j : Nat} (h : j < xs.length) : (xs.drop j).all p = (p xs[j] && (xs.drop (j + 1)).all p) := by
  rw [List.drop_eq_getElem_cons h, List.all_cons]
theorem rdL_at {xs : List (List Int)} {j : Nat} (h : j < xs.length) : rd_L1 xs (j : Int) = xs[j] := by
  simp [rd_L1, List.getD_eq_getElem?_getD, List.getElem?_eq_getElem h]
/-- One round more. -/
theorem ev_next {α : Type} {g f : Nat → Option α} {r : α} (k : Ev f r) (h : ∀ k, g (k + 1) = f k) : Ev g r := Ev.step h k
theorem ev_end {α : Type} {g : Nat → Option α} {r : α} (h : ∀ k, g (k + 1) = some r) : Ev g r := Ev.step (f := fun _ => some r) h (Ev.now r)
theorem is_l1 (n : Int) (x39 : List (List Int)) (x40 x41 : Int) (y : List Int) (ev st : Int) (l : List (List Int)) (hy : y.length ≤ 9223372036854775807) (r0 : Bool)
    (h0 : Ev (fun k => virgationref11_Is.l0 k n x39 x40 (wrap64 (x41 + 1)) ev st l) r0) (d : Nat) :
    ∀ j : Nat, y.length - j = d → j ≤ y.length → Ev (fun k => virgationref11_Is.l1 k n x39 x40 x41 y (y.length : Int) (j : Int) ev st l) ((y.drop j).all (qOk n) && r0) := by
  induction d with
  | zero =>
    intro j hd hj
    rw [List.drop_eq_nil_of_le (by omega)]
    refine ev_next h0 fun k => ?_
    simp only [virgationref11_Is.l1]
    rw [if_neg (by omega)]
  | succ d ih =>
    intro j hd hj
    have hlt : j < y.length := by omega
    rw [all_drop hlt]
    by_cases h1 : rd y j < -1
    · refine ev_end fun k => ?_
      simp only [virgationref11_Is.l1]
      rw [if_pos (by omega), if_pos (by omega), if_pos (by omega), if_pos h1]
      have : qOk n y[j] = false := by rw [← rd_at hlt]; simp [qOk]; omega
      rw [this]; rfl
    · by_cases h2 : rd y j ≥ n
      · refine ev_end fun k => ?_
        simp only [virgationref11_Is.l1]
        rw [if_pos (by omega), if_pos (by omega), if_pos (by omega), if_neg h1, if_pos h2]
        have : qOk n y[j] = false := by rw [← rd_at hlt]; simp [qOk]; omega
        rw [this]; rfl
      · have : qOk n y[j] = true := by rw [← rd_at hlt]; simp [qOk]; omega
        rw [this, Bool.true_and]
        refine ev_next (ih (j + 1) (by omega) (by omega)) fun k => ?_
        simp only [virgationref11_Is.l1]
        rw [if_pos (by omega), if_pos (by omega), if_pos (by omega), if_neg h1, if_neg h2, wrap_succ (by omega) (by omega)]
        rfl
theorem is_l0 (x39 : List (List Int)) (ev st : Int) (l : List (List Int)) (hl : x39.length ≤ 9223372036854775807) (hy : ∀ y ∈ x39, y.length ≤ 9223372036854775807) (n : Nat) (d : Nat) :
    ∀ j : Nat, x39.length - j = d → j ≤ x39.length → Ev (fun k => virgationref11_Is.l0 k n x39 (x39.length : Int) (j : Int) ev st l) ((x39.drop j).all (rowOk ev n)) := by
  induction d with
  | zero =>
    intro j hd hj
    rw [List.drop_eq_nil_of_le (by omega)]
    refine ev_end fun k => ?_
    simp only [virgationref11_Is.l0]
    rw [if_neg (by omega)]
    rfl
  | succ d ih =>
    intro j hd hj
    have hlt : j < x39.length := by omega
    rw [all_drop hlt]
    by_cases h1 : ((rd_L1 x39 j).length : Int) = ev
    · have h2 := ih (j + 1) (by omega) (by omega)
      have h3 := is_l1 n x39 x39.length j (rd_L1 x39 j) ev st l (by rw [rdL_at hlt]; exact hy _ (List.getElem_mem hlt)) _ (by rw [wrap_succ (by omega) (by omega)]; exact h2) _ 0 rfl (by omega)
      have h4 : rowOk ev n x39[j] = ((rd_L1 x39 j).drop 0).all (qOk n) := by
        rw [rdL_at hlt] at h1
        rw [rdL_at hlt, rowOk, decide_eq_true h1, Bool.true_and, List.drop_zero]
        rfl
      rw [h4]
      refine ev_next h3 fun k => ?_
      simp only [virgationref11_Is.l0]
      rw [if_pos (by omega), if_pos (by omega), if_pos (by omega), if_pos h1]
      rfl
    · have h4 : rowOk ev n x39[j] = false := by
        rw [rdL_at hlt] at h1
        simp [rowOk, h1]
      rw [h4, Bool.false_and]
      refine ev_end fun k => ?_
      simp only [virgationref11_Is.l0]
      rw [if_pos (by omega), if_pos (by omega), if_pos (by omega), if_neg h1]
/-- Lengths as the model has them. -/
def lens (l : List (List Int)) : Prop := l.length ≤ 9223372036854775807 ∧ ∀ y ∈ l, y.length ≤ 9223372036854775807
theorem is_ev (ev st : Int) (l : List (List Int)) (hl : lens l) : Ev (fun k => virgationref11_Is.f k ev st l) (specOk ev st l) := by
  have hbad : ∀ b : Bool, b = true → Ev (fun k => virgationref11_Is.j0 k (l.length : Int) b ev st l) false := by
    rintro b rfl
    exact ev_end fun k => by simp only [virgationref11_Is.j0]; rfl
  unfold specOk
  cases h : headOk ev st l.length with
  | false =>
    rw [Bool.false_and]
    rcases headOk_false h with h0 | ⟨h0, h1⟩ | ⟨h0, h1, h2⟩ | ⟨h0, h1, h2, h3⟩ | ⟨h0, h1, h2, h3, h4⟩ | ⟨h0, h1, h2, h3, h4, h5⟩
    · exact Ev.congr (fun k => by unfold virgationref11_Is.f; rw [if_pos h0]) (hbad true rfl)
    · exact Ev.congr (fun k => by unfold virgationref11_Is.f; rw [if_neg h0, if_pos h1]) (hbad true rfl)
    · exact Ev.congr (fun k => by unfold virgationref11_Is.f; rw [if_neg h0, if_neg h1, if_pos h2]) (hbad true rfl)
    · exact Ev.congr (fun k => by unfold virgationref11_Is.f; rw [if_neg h0, if_neg h1, if_neg h2, if_pos h3]) (hbad true rfl)
    · exact Ev.congr (fun k => by unfold virgationref11_Is.f; rw [if_neg h0, if_neg h1, if_neg h2, if_neg h3, if_pos h4]) (hbad true rfl)
    · exact Ev.congr (fun k => by unfold virgationref11_Is.f; rw [if_neg h0, if_neg h1, if_neg h2, if_neg h3, if_neg h4]) (hbad (decide (st ≥ (l.length : Int))) (decide_eq_true h5))
  | true =>
    obtain ⟨h0, h1, h2, h3, h4, h5⟩ := headOk_true h
    rw [Bool.true_and]
    have := is_l0 l ev st l hl.1 hl.2 l.length l.length 0 rfl (by omega)
    rw [List.drop_zero] at this
    refine Ev.congr (f := fun k => virgationref11_Is.j0 k (l.length : Int) false ev st l) (fun k => by unfold virgationref11_Is.f; rw [if_neg h0, if_neg h1, if_neg h2, if_neg h3, if_neg h4, decide_eq_false h5]) ?_
    exact ev_next this fun k => by simp only [virgationref11_Is.j0]; rw [if_neg (by simp)]; rfl
theorem lens_of_C {w : World} {A : Option Addr} {l : List (List Int)} (h : Kd.C (Kd.slice 3 (Kd.int .i64)) w A l.length l) : lens l := by
  refine ⟨h.2.1, fun y hy => ?_⟩
  obtain ⟨j, hj, rfl⟩ := List.getElem_of_mem hy
  obtain ⟨ad, e, hc⟩ := h.2.2 (by omega)
  obtain ⟨c, _, hK, _⟩ := hc j _ (List.getElem?_eq_getElem hj)
  obtain ⟨A', c', _, _, hC⟩ := hK
  exact hC.2.1
end Go.Proofs.Ytmphigeefppfpaa.H
namespace Go.Proofs.Ytmphigeefppfpaa.H
open Go.RowKit Go.Proofs.YtmphigeefppfpaaW.PrintWords Go.Proofs.YtmphigeefppfpaaW.PrintLast Go.Proofs.YtmphigeefppfpaaW.PrintMore
set_option linter.unusedVariables false
def domS (l : List (List Int)) (x : Int) : Prop := 0 ≤ x ∧ x < (l.length : Int)
end Go.Proofs.Ytmphigeefppfpaa.H
namespace Go.Proofs.Ytmphigeefppfpaa.H
open Go.RowKit Go.Proofs.YtmphigeefppfpaaW.PrintWords Go.Proofs.YtmphigeefppfpaaW.PrintLast Go.Proofs.YtmphigeefppfpaaW.PrintMore
set_option linter.unusedVariables false
theorem grown_setCell (W : World) (p : Addr) (u : Value) : W.grownBy (W.setCell p u) (some p.block) :=
  ⟨rfl, rfl, rfl, by simp [World.setCell], fun i _ hne => Below.heap_setCell W p u i (fun e => hne (by rw [e]))⟩
section
variable {w W W1 : World} {gb cb MB fb : Nat} {gv cv nv : Value} {Sc Sn : Nat → Prop} {c next : List Int} {F : List (List Int)} {cells : Array Value} {T : TypeId}
theorem R_offrow {α : Type} {d : Kd α} {e base : Nat} {S : Nat → Prop} {v : Value} {xs : List α} (h : d.R e W base S v xs) (hr : W.heap[fb]? = some (.cells cells T (0, 0))) (ht : ∀ q, q ∈ e :: d.E → q ≠ T) (hg : W.grownBy W1 (some fb)) : d.R e W1 base S v xs :=
  Kd.R_mono (Kd.R_grown (Kd.R_types h hr ht) hg (fun k hk he => hk.2 (by injection he))) (fun _ hk => hk.1)
end
end Go.Proofs.Ytmphigeefppfpaa.H
namespace Go.Proofs.Ytmphigeefppfpaa.H
open Go.RowKit Go.Proofs.YtmphigeefppfpaaW.PrintWords Go.Proofs.YtmphigeefppfpaaW.PrintLast Go.Proofs.YtmphigeefppfpaaW.PrintMore
set_option linter.unusedVariables false
/-- What the table must be: n events, no step beyond it. -/
def tableOk (n : Nat) (l : List (List Int)) : Prop := ∀ row ∈ l, row.length = n ∧ ∀ r ∈ row, -1 ≤ r ∧ r < (l.length : Int)
end Go.Proofs.Ytmphigeefppfpaa.H
namespace Go.Proofs.Ytmphigeefppfpaa.Q
open Go.RowKit Go.Proofs.YtmphigeefppfpaaW.PrintWords Go.Proofs.YtmphigeefppfpaaW.PrintLast Go.Proofs.YtmphigeefppfpaaW.PrintMore
attribute [local go_sem] max2_int min2_int max_two min_two max_three min_three max_four min_four   -- for this text's walks alone
set_option linter.unusedVariables false
set_option linter.unusedSimpArgs false
def virgationlaw11_many.f (k : Nat) (a0_0 : Int) (a0_1 : Int) (l0_2 : List (List Int)) (a1_0 : Int) (a1_1 : Int) (l1_2 : List (List Int)) : Option (Bool) := (virgationref11_Is.f k a0_0 a0_1 l0_2).bind fun t128 => (if t128 = true then ((virgationref11_Is.f k a1_0 a1_1 l1_2).bind fun t129 => (if t129 = true then (some (decide ((wrap64 ((l0_2.length : Int) * (l1_2.length : Int))) > 150))) else (some false))) else (some false))
set_option maxHeartbeats 8000000 in
set_option maxRecDepth 100000 in
theorem virgationlaw11_many.calls (k : Nat) (a0_0 : Int) (a0_1 : Int) (A0_2 : Option Addr) (c0_2 : Nat) (l0_2 : List (List Int)) (a1_0 : Int) (a1_1 : Int) (A1_2 : Option Addr) (c1_2 : Nat) (l1_2 : List (List Int)) (r : Bool) (w : World) (hr0_2 : Kd.C (Kd.slice 3 (Kd.int .i64)) w A0_2 l0_2.length l0_2) (hc0_2 : l0_2.length ≤ c0_2) (hr1_2 : Kd.C (Kd.slice 3 (Kd.int .i64)) w A1_2 l1_2.length l1_2) (hc1_2 : l1_2.length ≤ c1_2) (h : virgationlaw11_many.f k a0_0 a0_1 l0_2 a1_0 a1_1 l1_2 = some r) :
    Calls Try.prog 22 #[.agg #[.int .i64 a0_0, .int .i64 a0_1, .slice A0_2 l0_2.length c0_2], .agg #[.int .i64 a1_0, .int .i64 a1_1, .slice A1_2 l1_2.length c1_2]] w fun e w' => e = .returned (.bool r) ∧ Below w.heap.size w w' := by
  have hu24 := Try.underlying24
  have HR0_2 := Aside0.mk hr0_2
  have HC0_2 := Aside0.mk hc0_2
  clear hr0_2 hc0_2
  have HR1_2 := Aside0.mk hr1_2
  have HC1_2 := Aside0.mk hc1_2
  clear hr1_2 hc1_2
  have HB := Aside0.mk (Below.refl w.heap.size w)
  have H : ((virgationref11_Is.f k a0_0 a0_1 l0_2).bind fun t128 => (if t128 = true then ((virgationref11_Is.f k a1_0 a1_1 l1_2).bind fun t129 => (if t129 = true then (some (decide ((wrap64 ((l0_2.length : Int) * (l1_2.length : Int))) > 150))) else (some false))) else (some false))) = some r := h
  clear h
  replace H := Option.bind_eq_some_iff.mp H
  obtain ⟨t128, A30, H⟩ := H
  replace H : (if t128 = true then ((virgationref11_Is.f k a1_0 a1_1 l1_2).bind fun t129 => (if t129 = true then (some (decide ((wrap64 ((l0_2.length : Int) * (l1_2.length : Int))) > 150))) else (some false))) else (some false)) = some r := H
  have A3 := Aside0.mk A30
  clear A30
  by_cases c4 : t128 = true
  · subst c4
    have H1 : ((virgationref11_Is.f k a1_0 a1_1 l1_2).bind fun t129 => (if t129 = true then (some (decide ((wrap64 ((l0_2.length : Int) * (l1_2.length : Int))) > 150))) else (some false))) = some r := by rw [if_pos rfl] at H; exact H
    clear H
    have H := H1
    clear H1
    replace H := Option.bind_eq_some_iff.mp H
    obtain ⟨t129, A50, H⟩ := H
    replace H : (if t129 = true then (some (decide ((wrap64 ((l0_2.length : Int) * (l1_2.length : Int))) > 150))) else (some false)) = some r := H
    have A5 := Aside0.mk A50
    clear A50
    by_cases c6 : t129 = true
    · subst c6
      have H1 : (some (decide ((wrap64 ((l0_2.length : Int) * (l1_2.length : Int))) > 150))) = some r := by rw [if_pos rfl] at H; exact H
      clear H
      have H := H1
      clear H1
      obtain rfl := Option.some.inj H
      go_enter Try.func22, Try.ntmps22
      go_wp2_with (first | ((with_reducible refine gate_dst (N := 2) rfl ?_); (try (refine gate_guard (by rfl) ?_; dsimp only)); refine box_event ?hg (N := 2) ?hd (cs := #[.int .i64 a0_0, .int .i64 a0_1, .slice A0_2 l0_2.length c0_2]) (t := 24) ?hr ?_; (case hd => rfl); (case hg => rfl); (case hr => first | (go_simp; done) | (go_simp; rfl)); intro gb126 hg w7 hbox hb; have n0_ := Aside0.mk (below_step (by repeat (first | (with_reducible first | exact HB.out | apply below_alloc | apply pw_below_drewN | apply below_drew1) | exact HB.out)) hb); have n1_ := Aside0.mk (hbox); have n2_ := Aside0.mk ((by rw [hg]; exact (below_size (by repeat (first | (with_reducible first | exact HB.out | apply below_alloc | apply pw_below_drewN | apply below_drew1) | exact HB.out))) : w.heap.size ≤ gb126)); have n3_ := Aside0.mk ((by rw [hg]; exact (below_size (by repeat (first | (with_reducible first | exact HB.out | apply below_alloc | apply pw_below_drewN | apply below_drew1) | exact HB.out))) : w.heap.size ≤ gb126)); clear HB; have HB := n0_; have BK126 := n1_; have GW126 := n2_; have GE126 := n3_; clear n0_ n1_ n2_ n3_; clear hb hbox hg) | ((with_reducible refine gate_dst (N := 3) rfl ?_); (try (refine gate_guard (by rfl) ?_; dsimp only)); refine box_event ?hg (N := 3) ?hd (cs := #[.int .i64 a1_0, .int .i64 a1_1, .slice A1_2 l1_2.length c1_2]) (t := 24) ?hr ?_; (case hd => rfl); (case hg => rfl); (case hr => first | (go_simp; done) | (go_simp; rfl)); intro gb127 hg w8 hbox hb; have n0_ := Aside0.mk (blk_below (g := gb126) (o := .cells #[.int .i64 a0_0, .int .i64 a0_1, .slice A0_2 l0_2.length c0_2] 24 (0, 0)) (by (with_reducible repeat (first | refine blk_drewN ?_ _ | refine blk_drew ?_ | refine blk_alloc ?_ _)); exact BK126.out) hb); have n1_ := Aside0.mk (below_step (by repeat (first | (with_reducible first | exact HB.out | apply below_alloc | apply pw_below_drewN | apply below_drew1 | refine below_set ?_ GE126.out) | exact HB.out)) hb); have n2_ := Aside0.mk (hbox); have n3_ := Aside0.mk ((by rw [hg]; exact (below_size (by repeat (first | (with_reducible first | exact HB.out | apply below_alloc | apply pw_below_drewN | apply below_drew1 | refine below_set ?_ GE126.out) | exact HB.out))) : w.heap.size ≤ gb127)); have n4_ := Aside0.mk ((by rw [hg]; exact (below_size (by repeat (first | (with_reducible first | exact HB.out | apply below_alloc | apply pw_below_drewN | apply below_drew1 | refine below_set ?_ GE126.out) | exact HB.out))) : w.heap.size ≤ gb127)); have n5_ := Aside0.mk ((by rw [hg]; exact Nat.ne_of_lt (blk_lt (g := gb126) (o := .cells #[.int .i64 a0_0, .int .i64 a0_1, .slice A0_2 l0_2.length c0_2] 24 (0, 0)) (by (with_reducible repeat (first | refine blk_drewN ?_ _ | refine blk_drew ?_ | refine blk_alloc ?_ _)); exact BK126.out)) : gb126 ≠ gb127)); have n6_ := Aside0.mk ((by rw [hg]; exact Nat.ne_of_gt (blk_lt (g := gb126) (o := .cells #[.int .i64 a0_0, .int .i64 a0_1, .slice A0_2 l0_2.length c0_2] 24 (0, 0)) (by (with_reducible repeat (first | refine blk_drewN ?_ _ | refine blk_drew ?_ | refine blk_alloc ?_ _)); exact BK126.out)) : gb127 ≠ gb126)); clear BK126; clear HB; have BK126 := n0_; have HB := n1_; have BK127 := n2_; have GW127 := n3_; have GE127 := n4_; have NB126_127 := n5_; have NB127_126 := n6_; clear n0_ n1_ n2_ n3_ n4_ n5_ n6_; clear hb hbox hg; have hnb9 := NB126_127.out; have hnc9 := NB127_126.out; have hcz10_0 : w8.cell? ⟨gb126, 0, none⟩ = some (.int .i64 a0_0) := (blk_cell BK126.out 0).trans rfl; have hcz10_1 : w8.cell? ⟨gb126, 1, none⟩ = some (.int .i64 a0_1) := (blk_cell BK126.out 1).trans rfl; have hcz10_2 : w8.cell? ⟨gb126, 2, none⟩ = some (.slice A0_2 l0_2.length c0_2) := (blk_cell BK126.out 2).trans rfl; have hfz10_0 := blk_frozen BK126.out 0; have hfz10_1 := blk_frozen BK126.out 1; have hfz10_2 := blk_frozen BK126.out 2) | ((with_reducible refine gate_callee (f := 20) rfl ?_); refine goesL_ (some 6) rfl rfl Try.func20 (by kernel_rfl) rfl #[.agg #[.int .i64 a0_0, .int .i64 a0_1, .slice A0_2 l0_2.length c0_2]] rfl (by (try simp only [List.map_toArray, List.map_cons, List.map_nil]); first | done | rfl | (simp only [List.length_drop, List.length_take]; rfl)) ?_; (with_reducible refine (virgationref11_Is.calls k a0_0 a0_1 _ _ l0_2 true _ ?side1 ?side2 A3.out).mono ?_); (case side1 => repeat (first | exact (Kd.C_below HR0_2.out HB.out) | (with_reducible refine Kd.C_alloc ?_ _) | (with_reducible refine Kd.C_drewN ?_ _) | (with_reducible refine Kd.C_drew ?_))); (case side2 => exact HC0_2.out); rintro e w11 ⟨rfl, hb⟩; refine ⟨_, rfl, ?_⟩; have n0_ := Aside0.mk (blk_below (g := gb126) (o := .cells #[.int .i64 a0_0, .int .i64 a0_1, .slice A0_2 l0_2.length c0_2] 24 (0, 0)) (by (with_reducible repeat (first | refine blk_drewN ?_ _ | refine blk_drew ?_ | refine blk_alloc ?_ _)); exact BK126.out) hb); have n1_ := Aside0.mk (blk_below (g := gb127) (o := .cells #[.int .i64 a1_0, .int .i64 a1_1, .slice A1_2 l1_2.length c1_2] 24 (0, 0)) (by (with_reducible repeat (first | refine blk_drewN ?_ _ | refine blk_drew ?_ | refine blk_alloc ?_ _)); exact BK127.out) hb); have n2_ := Aside0.mk (below_step (by repeat (first | (with_reducible first | exact HB.out | apply below_alloc | apply pw_below_drewN | apply below_drew1 | refine below_set ?_ GE126.out | refine below_set ?_ GE127.out) | exact HB.out)) hb); clear BK126; clear BK127; clear HB; have BK126 := n0_; have BK127 := n1_; have HB := n2_; clear n0_ n1_ n2_; (try clear hb); (try clear hb2); (try clear hk); (try clear hi); have hcz12_0 : w11.cell? ⟨gb127, 0, none⟩ = some (.int .i64 a1_0) := (blk_cell BK127.out 0).trans rfl; have hcz12_1 : w11.cell? ⟨gb127, 1, none⟩ = some (.int .i64 a1_1) := (blk_cell BK127.out 1).trans rfl; have hcz12_2 : w11.cell? ⟨gb127, 2, none⟩ = some (.slice A1_2 l1_2.length c1_2) := (blk_cell BK127.out 2).trans rfl; have hfz12_0 := blk_frozen BK127.out 0; have hfz12_1 := blk_frozen BK127.out 1; have hfz12_2 := blk_frozen BK127.out 2) | (go_at_call 20; (with_reducible refine (virgationref11_Is.calls k a1_0 a1_1 _ _ l1_2 true _ ?side1 ?side2 A5.out).mono ?_); (case side1 => repeat (first | exact (Kd.C_below HR1_2.out HB.out) | (with_reducible refine Kd.C_alloc ?_ _) | (with_reducible refine Kd.C_drewN ?_ _) | (with_reducible refine Kd.C_drew ?_))); (case side2 => exact HC1_2.out); rintro e w13 ⟨rfl, hb⟩; have n0_ := Aside0.mk (blk_below (g := gb126) (o := .cells #[.int .i64 a0_0, .int .i64 a0_1, .slice A0_2 l0_2.length c0_2] 24 (0, 0)) (by (with_reducible repeat (first | refine blk_drewN ?_ _ | refine blk_drew ?_ | refine blk_alloc ?_ _)); exact BK126.out) hb); have n1_ := Aside0.mk (blk_below (g := gb127) (o := .cells #[.int .i64 a1_0, .int .i64 a1_1, .slice A1_2 l1_2.length c1_2] 24 (0, 0)) (by (with_reducible repeat (first | refine blk_drewN ?_ _ | refine blk_drew ?_ | refine blk_alloc ?_ _)); exact BK127.out) hb); have n2_ := Aside0.mk (below_step (by repeat (first | (with_reducible first | exact HB.out | apply below_alloc | apply pw_below_drewN | apply below_drew1 | refine below_set ?_ GE126.out | refine below_set ?_ GE127.out) | exact HB.out)) hb); clear BK126; clear BK127; clear HB; have BK126 := n0_; have BK127 := n1_; have HB := n2_; clear n0_ n1_ n2_; (try clear hb); (try clear hb2); (try clear hk); (try clear hi); have hcz14_0 : w13.cell? ⟨gb126, 0, none⟩ = some (.int .i64 a0_0) := (blk_cell BK126.out 0).trans rfl; have hcz14_1 : w13.cell? ⟨gb126, 1, none⟩ = some (.int .i64 a0_1) := (blk_cell BK126.out 1).trans rfl; have hcz14_2 : w13.cell? ⟨gb126, 2, none⟩ = some (.slice A0_2 l0_2.length c0_2) := (blk_cell BK126.out 2).trans rfl; have hfz14_0 := blk_frozen BK126.out 0; have hfz14_1 := blk_frozen BK126.out 1; have hfz14_2 := blk_frozen BK126.out 2; have hcz15_0 : w13.cell? ⟨gb127, 0, none⟩ = some (.int .i64 a1_0) := (blk_cell BK127.out 0).trans rfl; have hcz15_1 : w13.cell? ⟨gb127, 1, none⟩ = some (.int .i64 a1_1) := (blk_cell BK127.out 1).trans rfl; have hcz15_2 : w13.cell? ⟨gb127, 2, none⟩ = some (.slice A1_2 l1_2.length c1_2) := (blk_cell BK127.out 2).trans rfl; have hfz15_0 := blk_frozen BK127.out 0; have hfz15_1 := blk_frozen BK127.out 1; have hfz15_2 := blk_frozen BK127.out 2))
      go_ret
      exact ⟨by first | rfl | (simp [errW_none, errW_some] <;> rfl) | (simp [*, errW_none, errW_some] <;> rfl), by repeat (first | (with_reducible first | exact HB.out | apply below_alloc | apply pw_below_drewN | apply below_drew1 | refine below_set ?_ GE126.out | refine below_set ?_ GE127.out) | exact HB.out)⟩
    · replace c6 := Bool.eq_false_iff.mpr c6
      subst c6
      have H1 : (some false) = some r := by rw [if_neg (show ¬ (false = true) by decide)] at H; exact H
      clear H
      have H := H1
      clear H1
      obtain rfl := Option.some.inj H
      go_enter Try.func22, Try.ntmps22
      go_wp2_with (first | ((with_reducible refine gate_dst (N := 2) rfl ?_); (try (refine gate_guard (by rfl) ?_; dsimp only)); refine box_event ?hg (N := 2) ?hd (cs := #[.int .i64 a0_0, .int .i64 a0_1, .slice A0_2 l0_2.length c0_2]) (t := 24) ?hr ?_; (case hd => rfl); (case hg => rfl); (case hr => first | (go_simp; done) | (go_simp; rfl)); intro gb126 hg w16 hbox hb; have n0_ := Aside0.mk (below_step (by repeat (first | (with_reducible first | exact HB.out | apply below_alloc | apply pw_below_drewN | apply below_drew1) | exact HB.out)) hb); have n1_ := Aside0.mk (hbox); have n2_ := Aside0.mk ((by rw [hg]; exact (below_size (by repeat (first | (with_reducible first | exact HB.out | apply below_alloc | apply pw_below_drewN | apply below_drew1) | exact HB.out))) : w.heap.size ≤ gb126)); have n3_ := Aside0.mk ((by rw [hg]; exact (below_size (by repeat (first | (with_reducible first | exact HB.out | apply below_alloc | apply pw_below_drewN | apply below_drew1) | exact HB.out))) : w.heap.size ≤ gb126)); clear HB; have HB := n0_; have BK126 := n1_; have GW126 := n2_; have GE126 := n3_; clear n0_ n1_ n2_ n3_; clear hb hbox hg) | ((with_reducible refine gate_dst (N := 3) rfl ?_); (try (refine gate_guard (by rfl) ?_; dsimp only)); refine box_event ?hg (N := 3) ?hd (cs := #[.int .i64 a1_0, .int .i64 a1_1, .slice A1_2 l1_2.length c1_2]) (t := 24) ?hr ?_; (case hd => rfl); (case hg => rfl); (case hr => first | (go_simp; done) | (go_simp; rfl)); intro gb127 hg w17 hbox hb; have n0_ := Aside0.mk (blk_below (g := gb126) (o := .cells #[.int .i64 a0_0, .int .i64 a0_1, .slice A0_2 l0_2.length c0_2] 24 (0, 0)) (by (with_reducible repeat (first | refine blk_drewN ?_ _ | refine blk_drew ?_ | refine blk_alloc ?_ _)); exact BK126.out) hb); have n1_ := Aside0.mk (below_step (by repeat (first | (with_reducible first | exact HB.out | apply below_alloc | apply pw_below_drewN | apply below_drew1 | refine below_set ?_ GE126.out) | exact HB.out)) hb); have n2_ := Aside0.mk (hbox); have n3_ := Aside0.mk ((by rw [hg]; exact (below_size (by repeat (first | (with_reducible first | exact HB.out | apply below_alloc | apply pw_below_drewN | apply below_drew1 | refine below_set ?_ GE126.out) | exact HB.out))) : w.heap.size ≤ gb127)); have n4_ := Aside0.mk ((by rw [hg]; exact (below_size (by repeat (first | (with_reducible first | exact HB.out | apply below_alloc | apply pw_below_drewN | apply below_drew1 | refine below_set ?_ GE126.out) | exact HB.out))) : w.heap.size ≤ gb127)); have n5_ := Aside0.mk ((by rw [hg]; exact Nat.ne_of_lt (blk_lt (g := gb126) (o := .cells #[.int .i64 a0_0, .int .i64 a0_1, .slice A0_2 l0_2.length c0_2] 24 (0, 0)) (by (with_reducible repeat (first | refine blk_drewN ?_ _ | refine blk_drew ?_ | refine blk_alloc ?_ _)); exact BK126.out)) : gb126 ≠ gb127)); have n6_ := Aside0.mk ((by rw [hg]; exact Nat.ne_of_gt (blk_lt (g := gb126) (o := .cells #[.int .i64 a0_0, .int .i64 a0_1, .slice A0_2 l0_2.length c0_2] 24 (0, 0)) (by (with_reducible repeat (first | refine blk_drewN ?_ _ | refine blk_drew ?_ | refine blk_alloc ?_ _)); exact BK126.out)) : gb127 ≠ gb126)); clear BK126; clear HB; have BK126 := n0_; have HB := n1_; have BK127 := n2_; have GW127 := n3_; have GE127 := n4_; have NB126_127 := n5_; have NB127_126 := n6_; clear n0_ n1_ n2_ n3_ n4_ n5_ n6_; clear hb hbox hg; have hnb18 := NB126_127.out; have hnc18 := NB127_126.out; have hcz19_0 : w17.cell? ⟨gb126, 0, none⟩ = some (.int .i64 a0_0) := (blk_cell BK126.out 0).trans rfl; have hcz19_1 : w17.cell? ⟨gb126, 1, none⟩ = some (.int .i64 a0_1) := (blk_cell BK126.out 1).trans rfl; have hcz19_2 : w17.cell? ⟨gb126, 2, none⟩ = some (.slice A0_2 l0_2.length c0_2) := (blk_cell BK126.out 2).trans rfl; have hfz19_0 := blk_frozen BK126.out 0; have hfz19_1 := blk_frozen BK126.out 1; have hfz19_2 := blk_frozen BK126.out 2) | ((with_reducible refine gate_callee (f := 20) rfl ?_); refine goesL_ (some 6) rfl rfl Try.func20 (by kernel_rfl) rfl #[.agg #[.int .i64 a0_0, .int .i64 a0_1, .slice A0_2 l0_2.length c0_2]] rfl (by (try simp only [List.map_toArray, List.map_cons, List.map_nil]); first | done | rfl | (simp only [List.length_drop, List.length_take]; rfl)) ?_; (with_reducible refine (virgationref11_Is.calls k a0_0 a0_1 _ _ l0_2 true _ ?side1 ?side2 A3.out).mono ?_); (case side1 => repeat (first | exact (Kd.C_below HR0_2.out HB.out) | (with_reducible refine Kd.C_alloc ?_ _) | (with_reducible refine Kd.C_drewN ?_ _) | (with_reducible refine Kd.C_drew ?_))); (case side2 => exact HC0_2.out); rintro e w20 ⟨rfl, hb⟩; refine ⟨_, rfl, ?_⟩; have n0_ := Aside0.mk (blk_below (g := gb126) (o := .cells #[.int .i64 a0_0, .int .i64 a0_1, .slice A0_2 l0_2.length c0_2] 24 (0, 0)) (by (with_reducible repeat (first | refine blk_drewN ?_ _ | refine blk_drew ?_ | refine blk_alloc ?_ _)); exact BK126.out) hb); have n1_ := Aside0.mk (blk_below (g := gb127) (o := .cells #[.int .i64 a1_0, .int .i64 a1_1, .slice A1_2 l1_2.length c1_2] 24 (0, 0)) (by (with_reducible repeat (first | refine blk_drewN ?_ _ | refine blk_drew ?_ | refine blk_alloc ?_ _)); exact BK127.out) hb); have n2_ := Aside0.mk (below_step (by repeat (first | (with_reducible first | exact HB.out | apply below_alloc | apply pw_below_drewN | apply below_drew1 | refine below_set ?_ GE126.out | refine below_set ?_ GE127.out) | exact HB.out)) hb); clear BK126; clear BK127; clear HB; have BK126 := n0_; have BK127 := n1_; have HB := n2_; clear n0_ n1_ n2_; (try clear hb); (try clear hb2); (try clear hk); (try clear hi); have hcz21_0 : w20.cell? ⟨gb127, 0, none⟩ = some (.int .i64 a1_0) := (blk_cell BK127.out 0).trans rfl; have hcz21_1 : w20.cell? ⟨gb127, 1, none⟩ = some (.int .i64 a1_1) := (blk_cell BK127.out 1).trans rfl; have hcz21_2 : w20.cell? ⟨gb127, 2, none⟩ = some (.slice A1_2 l1_2.length c1_2) := (blk_cell BK127.out 2).trans rfl; have hfz21_0 := blk_frozen BK127.out 0; have hfz21_1 := blk_frozen BK127.out 1; have hfz21_2 := blk_frozen BK127.out 2) | (go_at_call 20; (with_reducible refine (virgationref11_Is.calls k a1_0 a1_1 _ _ l1_2 false _ ?side1 ?side2 A5.out).mono ?_); (case side1 => repeat (first | exact (Kd.C_below HR1_2.out HB.out) | (with_reducible refine Kd.C_alloc ?_ _) | (with_reducible refine Kd.C_drewN ?_ _) | (with_reducible refine Kd.C_drew ?_))); (case side2 => exact HC1_2.out); rintro e w22 ⟨rfl, hb⟩; have n0_ := Aside0.mk (blk_below (g := gb126) (o := .cells #[.int .i64 a0_0, .int .i64 a0_1, .slice A0_2 l0_2.length c0_2] 24 (0, 0)) (by (with_reducible repeat (first | refine blk_drewN ?_ _ | refine blk_drew ?_ | refine blk_alloc ?_ _)); exact BK126.out) hb); have n1_ := Aside0.mk (blk_below (g := gb127) (o := .cells #[.int .i64 a1_0, .int .i64 a1_1, .slice A1_2 l1_2.length c1_2] 24 (0, 0)) (by (with_reducible repeat (first | refine blk_drewN ?_ _ | refine blk_drew ?_ | refine blk_alloc ?_ _)); exact BK127.out) hb); have n2_ := Aside0.mk (below_step (by repeat (first | (with_reducible first | exact HB.out | apply below_alloc | apply pw_below_drewN | apply below_drew1 | refine below_set ?_ GE126.out | refine below_set ?_ GE127.out) | exact HB.out)) hb); clear BK126; clear BK127; clear HB; have BK126 := n0_; have BK127 := n1_; have HB := n2_; clear n0_ n1_ n2_; (try clear hb); (try clear hb2); (try clear hk); (try clear hi)))
      go_ret
      exact ⟨by first | rfl | (simp [errW_none, errW_some] <;> rfl) | (simp [*, errW_none, errW_some] <;> rfl), by repeat (first | (with_reducible first | exact HB.out | apply below_alloc | apply pw_below_drewN | apply below_drew1 | refine below_set ?_ GE126.out | refine below_set ?_ GE127.out) | exact HB.out)⟩
  · replace c4 := Bool.eq_false_iff.mpr c4
    subst c4
    have H1 : (some false) = some r := by rw [if_neg (show ¬ (false = true) by decide)] at H; exact H
    clear H
    have H := H1
    clear H1
    obtain rfl := Option.some.inj H
    go_enter Try.func22, Try.ntmps22
    go_wp2_with (first | ((with_reducible refine gate_dst (N := 2) rfl ?_); (try (refine gate_guard (by rfl) ?_; dsimp only)); refine box_event ?hg (N := 2) ?hd (cs := #[.int .i64 a0_0, .int .i64 a0_1, .slice A0_2 l0_2.length c0_2]) (t := 24) ?hr ?_; (case hd => rfl); (case hg => rfl); (case hr => first | (go_simp; done) | (go_simp; rfl)); intro gb126 hg w23 hbox hb; have n0_ := Aside0.mk (below_step (by repeat (first | (with_reducible first | exact HB.out | apply below_alloc | apply pw_below_drewN | apply below_drew1) | exact HB.out)) hb); have n1_ := Aside0.mk (hbox); have n2_ := Aside0.mk ((by rw [hg]; exact (below_size (by repeat (first | (with_reducible first | exact HB.out | apply below_alloc | apply pw_below_drewN | apply below_drew1) | exact HB.out))) : w.heap.size ≤ gb126)); have n3_ := Aside0.mk ((by rw [hg]; exact (below_size (by repeat (first | (with_reducible first | exact HB.out | apply below_alloc | apply pw_below_drewN | apply below_drew1) | exact HB.out))) : w.heap.size ≤ gb126)); clear HB; have HB := n0_; have BK126 := n1_; have GW126 := n2_; have GE126 := n3_; clear n0_ n1_ n2_ n3_; clear hb hbox hg) | ((with_reducible refine gate_dst (N := 3) rfl ?_); (try (refine gate_guard (by rfl) ?_; dsimp only)); refine box_event ?hg (N := 3) ?hd (cs := #[.int .i64 a1_0, .int .i64 a1_1, .slice A1_2 l1_2.length c1_2]) (t := 24) ?hr ?_; (case hd => rfl); (case hg => rfl); (case hr => first | (go_simp; done) | (go_simp; rfl)); intro gb127 hg w24 hbox hb; have n0_ := Aside0.mk (blk_below (g := gb126) (o := .cells #[.int .i64 a0_0, .int .i64 a0_1, .slice A0_2 l0_2.length c0_2] 24 (0, 0)) (by (with_reducible repeat (first | refine blk_drewN ?_ _ | refine blk_drew ?_ | refine blk_alloc ?_ _)); exact BK126.out) hb); have n1_ := Aside0.mk (below_step (by repeat (first | (with_reducible first | exact HB.out | apply below_alloc | apply pw_below_drewN | apply below_drew1 | refine below_set ?_ GE126.out) | exact HB.out)) hb); have n2_ := Aside0.mk (hbox); have n3_ := Aside0.mk ((by rw [hg]; exact (below_size (by repeat (first | (with_reducible first | exact HB.out | apply below_alloc | apply pw_below_drewN | apply below_drew1 | refine below_set ?_ GE126.out) | exact HB.out))) : w.heap.size ≤ gb127)); have n4_ := Aside0.mk ((by rw [hg]; exact (below_size (by repeat (first | (with_reducible first | exact HB.out | apply below_alloc | apply pw_below_drewN | apply below_drew1 | refine below_set ?_ GE126.out) | exact HB.out))) : w.heap.size ≤ gb127)); have n5_ := Aside0.mk ((by rw [hg]; exact Nat.ne_of_lt (blk_lt (g := gb126) (o := .cells #[.int .i64 a0_0, .int .i64 a0_1, .slice A0_2 l0_2.length c0_2] 24 (0, 0)) (by (with_reducible repeat (first | refine blk_drewN ?_ _ | refine blk_drew ?_ | refine blk_alloc ?_ _)); exact BK126.out)) : gb126 ≠ gb127)); have n6_ := Aside0.mk ((by rw [hg]; exact Nat.ne_of_gt (blk_lt (g := gb126) (o := .cells #[.int .i64 a0_0, .int .i64 a0_1, .slice A0_2 l0_2.length c0_2] 24 (0, 0)) (by (with_reducible repeat (first | refine blk_drewN ?_ _ | refine blk_drew ?_ | refine blk_alloc ?_ _)); exact BK126.out)) : gb127 ≠ gb126)); clear BK126; clear HB; have BK126 := n0_; have HB := n1_; have BK127 := n2_; have GW127 := n3_; have GE127 := n4_; have NB126_127 := n5_; have NB127_126 := n6_; clear n0_ n1_ n2_ n3_ n4_ n5_ n6_; clear hb hbox hg; have hnb25 := NB126_127.out; have hnc25 := NB127_126.out; have hcz26_0 : w24.cell? ⟨gb126, 0, none⟩ = some (.int .i64 a0_0) := (blk_cell BK126.out 0).trans rfl; have hcz26_1 : w24.cell? ⟨gb126, 1, none⟩ = some (.int .i64 a0_1) := (blk_cell BK126.out 1).trans rfl; have hcz26_2 : w24.cell? ⟨gb126, 2, none⟩ = some (.slice A0_2 l0_2.length c0_2) := (blk_cell BK126.out 2).trans rfl; have hfz26_0 := blk_frozen BK126.out 0; have hfz26_1 := blk_frozen BK126.out 1; have hfz26_2 := blk_frozen BK126.out 2) | ((with_reducible refine gate_callee (f := 20) rfl ?_); refine goesL_ (some 6) rfl rfl Try.func20 (by kernel_rfl) rfl #[.agg #[.int .i64 a0_0, .int .i64 a0_1, .slice A0_2 l0_2.length c0_2]] rfl (by (try simp only [List.map_toArray, List.map_cons, List.map_nil]); first | done | rfl | (simp only [List.length_drop, List.length_take]; rfl)) ?_; (with_reducible refine (virgationref11_Is.calls k a0_0 a0_1 _ _ l0_2 false _ ?side1 ?side2 A3.out).mono ?_); (case side1 => repeat (first | exact (Kd.C_below HR0_2.out HB.out) | (with_reducible refine Kd.C_alloc ?_ _) | (with_reducible refine Kd.C_drewN ?_ _) | (with_reducible refine Kd.C_drew ?_))); (case side2 => exact HC0_2.out); rintro e w27 ⟨rfl, hb⟩; refine ⟨_, rfl, ?_⟩; have n0_ := Aside0.mk (blk_below (g := gb126) (o := .cells #[.int .i64 a0_0, .int .i64 a0_1, .slice A0_2 l0_2.length c0_2] 24 (0, 0)) (by (with_reducible repeat (first | refine blk_drewN ?_ _ | refine blk_drew ?_ | refine blk_alloc ?_ _)); exact BK126.out) hb); have n1_ := Aside0.mk (blk_below (g := gb127) (o := .cells #[.int .i64 a1_0, .int .i64 a1_1, .slice A1_2 l1_2.length c1_2] 24 (0, 0)) (by (with_reducible repeat (first | refine blk_drewN ?_ _ | refine blk_drew ?_ | refine blk_alloc ?_ _)); exact BK127.out) hb); have n2_ := Aside0.mk (below_step (by repeat (first | (with_reducible first | exact HB.out | apply below_alloc | apply pw_below_drewN | apply below_drew1 | refine below_set ?_ GE126.out | refine below_set ?_ GE127.out) | exact HB.out)) hb); clear BK126; clear BK127; clear HB; have BK126 := n0_; have BK127 := n1_; have HB := n2_; clear n0_ n1_ n2_; (try clear hb); (try clear hb2); (try clear hk); (try clear hi)))
    go_ret
    exact ⟨by first | rfl | (simp [errW_none, errW_some] <;> rfl) | (simp [*, errW_none, errW_some] <;> rfl), by repeat (first | (with_reducible first | exact HB.out | apply below_alloc | apply pw_below_drewN | apply below_drew1 | refine below_set ?_ GE126.out | refine below_set ?_ GE127.out) | exact HB.out)⟩
def spec_next.f (a0_0 : Int) (a0_1 : Int) (l0_2 : List (List Int)) (a1 : Int) (a2 : Int) : Option (Int) := if a1 < 0 then (some (-1)) else (if 0 ≤ a1 then (if a1 < (l0_2.length : Int) then (if 0 ≤ a2 then (if a2 < ((rd_L1 l0_2 a1).length : Int) then (some (rd (rd_L1 l0_2 a1) a2)) else (none)) else (none)) else (none)) else (none))
set_option maxHeartbeats 8000000 in
set_option maxRecDepth 100000 in
theorem spec_next.calls (a0_0 : Int) (a0_1 : Int) (A0_2 : Option Addr) (c0_2 : Nat) (l0_2 : List (List Int)) (a1 : Int) (a2 : Int) (r : Int) (w : World) (hr0_2 : Kd.C (Kd.slice 3 (Kd.int .i64)) w A0_2 l0_2.length l0_2) (hc0_2 : l0_2.length ≤ c0_2) (h : spec_next.f a0_0 a0_1 l0_2 a1 a2 = some r) :
    Calls Try.prog 44 #[.agg #[.int .i64 a0_0, .int .i64 a0_1, .slice A0_2 l0_2.length c0_2], .int .i64 a1, .int .i64 a2] w fun e w' => e = .returned (.int .i64 r) ∧ Below w.heap.size w w' := by
  have hu24 := Try.underlying24
  have HR0_2 := Aside0.mk hr0_2
  have HC0_2 := Aside0.mk hc0_2
  clear hr0_2 hc0_2
  have HB := Aside0.mk (Below.refl w.heap.size w)
  have H : (if a1 < 0 then (some (-1)) else (if 0 ≤ a1 then (if a1 < (l0_2.length : Int) then (if 0 ≤ a2 then (if a2 < ((rd_L1 l0_2 a1).length : Int) then (some (rd (rd_L1 l0_2 a1) a2)) else (none)) else (none)) else (none)) else (none))) = some r := h
  clear h
  by_cases c4 : a1 < 0
  · rw [if_pos c4] at H
    have c4b0 : decide (a1 < 0) = true := decide_eq_true c4
    clear c4
    obtain rfl := Option.some.inj H
    go_enter Try.func44, Try.ntmps44
    go_wp2_with (first | ((with_reducible refine gate_dst (N := 3) rfl ?_); refine box_event ?hg (N := 3) ?hd (cs := #[.int .i64 a0_0, .int .i64 a0_1, .slice A0_2 l0_2.length c0_2]) (t := 24) ?hr ?_; (case hd => rfl); (case hg => rfl); (case hr => first | (go_simp; done) | (go_simp; rfl)); intro gb130 hg w5 hbox hb; have n0_ := Aside0.mk (below_step (by repeat (first | (with_reducible first | exact HB.out | apply below_alloc | apply pw_below_drewN | apply below_drew1) | exact HB.out)) hb); have n1_ := Aside0.mk (hbox); have n2_ := Aside0.mk ((by rw [hg]; exact (below_size (by repeat (first | (with_reducible first | exact HB.out | apply below_alloc | apply pw_below_drewN | apply below_drew1) | exact HB.out))) : w.heap.size ≤ gb130)); have n3_ := Aside0.mk ((by rw [hg]; exact (below_size (by repeat (first | (with_reducible first | exact HB.out | apply below_alloc | apply pw_below_drewN | apply below_drew1) | exact HB.out))) : w.heap.size ≤ gb130)); clear HB; have HB := n0_; have BK130 := n1_; have GW130 := n2_; have GE130 := n3_; clear n0_ n1_ n2_ n3_; clear hb hbox hg))
    go_ret
    exact ⟨by first | rfl | (simp [errW_none, errW_some] <;> rfl) | (simp [*, errW_none, errW_some] <;> rfl), by repeat (first | (with_reducible first | exact HB.out | apply below_alloc | apply pw_below_drewN | apply below_drew1 | refine below_set ?_ GE130.out) | exact HB.out)⟩
  · rw [if_neg c4] at H
    have c4b0 : decide (a1 < 0) = false := decide_eq_false c4
    clear c4
    by_cases c6 : 0 ≤ a1
    · rw [if_pos c6] at H
      have c6b0 : decide (0 ≤ a1) = true := decide_eq_true c6
      clear c6
      by_cases c7 : a1 < (l0_2.length : Int)
      · rw [if_pos c7] at H
        have c7b0 : decide (a1 < (l0_2.length : Int)) = true := decide_eq_true c7
        clear c7
        by_cases c8 : 0 ≤ a2
        · rw [if_pos c8] at H
          have c8b0 : decide (0 ≤ a2) = true := decide_eq_true c8
          clear c8
          by_cases c9 : a2 < ((rd_L1 l0_2 a1).length : Int)
          · rw [if_pos c9] at H
            have c9b0 : decide (a2 < ((rd_L1 l0_2 a1).length : Int)) = true := decide_eq_true c9
            clear c9
            obtain rfl := Option.some.inj H
            go_enter Try.func44, Try.ntmps44
            go_wp2_with (first | ((with_reducible refine gate_dst (N := 3) rfl ?_); refine box_event ?hg (N := 3) ?hd (cs := #[.int .i64 a0_0, .int .i64 a0_1, .slice A0_2 l0_2.length c0_2]) (t := 24) ?hr ?_; (case hd => rfl); (case hg => rfl); (case hr => first | (go_simp; done) | (go_simp; rfl)); intro gb130 hg w10 hbox hb; have n0_ := Aside0.mk (below_step (by repeat (first | (with_reducible first | exact HB.out | apply below_alloc | apply pw_below_drewN | apply below_drew1) | exact HB.out)) hb); have n1_ := Aside0.mk (hbox); have n2_ := Aside0.mk ((by rw [hg]; exact (below_size (by repeat (first | (with_reducible first | exact HB.out | apply below_alloc | apply pw_below_drewN | apply below_drew1) | exact HB.out))) : w.heap.size ≤ gb130)); have n3_ := Aside0.mk ((by rw [hg]; exact (below_size (by repeat (first | (with_reducible first | exact HB.out | apply below_alloc | apply pw_below_drewN | apply below_drew1) | exact HB.out))) : w.heap.size ≤ gb130)); clear HB; have HB := n0_; have BK130 := n1_; have GW130 := n2_; have GE130 := n3_; clear n0_ n1_ n2_ n3_; clear hb hbox hg; have hcz11_0 : w10.cell? ⟨gb130, 0, none⟩ = some (.int .i64 a0_0) := (blk_cell BK130.out 0).trans rfl; have hcz11_1 : w10.cell? ⟨gb130, 1, none⟩ = some (.int .i64 a0_1) := (blk_cell BK130.out 1).trans rfl; have hcz11_2 : w10.cell? ⟨gb130, 2, none⟩ = some (.slice A0_2 l0_2.length c0_2) := (blk_cell BK130.out 2).trans rfl; have hfz11_0 := blk_frozen BK130.out 0; have hfz11_1 := blk_frozen BK130.out 1; have hfz11_2 := blk_frozen BK130.out 2; have p131 : 0 ≤ (a1 : Int) := of_decide_eq_true (by first | (with_reducible assumption) | assumption); have q131 : a1 < (l0_2.length : Int) := of_decide_eq_true (by first | (with_reducible assumption) | assumption); obtain ⟨ad131, A131_0, c131_0, e131, hx131_0, hl131_0, hi131_0⟩ := at_L1 HR0_2.out a1 p131 q131; cases e131; replace hx131_0 := (HB.out.cell (World.block_lt_of_cell? w _ hx131_0)).trans hx131_0; have HR131_0 := Aside0.mk hi131_0; have HC131_0 := Aside0.mk hl131_0; clear hi131_0 hl131_0; replace p131 := eq_true p131; replace q131 := eq_true q131; have p132 : 0 ≤ (a2 : Int) := of_decide_eq_true (by first | (with_reducible assumption) | assumption); have q132 : a2 < ((rd_L1 l0_2 a1).length : Int) := of_decide_eq_true (by first | (with_reducible assumption) | assumption); obtain ⟨ad132, e132, hx132_0⟩ := Kd.at_int HR131_0.out a2 p132 q132; cases e132; replace hx132_0 := (HB.out.cell (World.block_lt_of_cell? w _ hx132_0)).trans hx132_0; replace p132 := eq_true p132; replace q132 := eq_true q132))
            go_ret
            exact ⟨by first | rfl | (simp [errW_none, errW_some] <;> rfl) | (simp [*, errW_none, errW_some] <;> rfl), by repeat (first | (with_reducible first | exact HB.out | apply below_alloc | apply pw_below_drewN | apply below_drew1 | refine below_set ?_ GE130.out) | exact HB.out)⟩
          · rw [if_neg c9] at H
            exact absurd H (by simp)
        · rw [if_neg c8] at H
          exact absurd H (by simp)
      · rw [if_neg c7] at H
        exact absurd H (by simp)
    · rw [if_neg c6] at H
      exact absurd H (by simp)
def virgationref11_two.j0 : Nat → Bool → Int → Int → List (List Int) → Int → Int → List (List Int) → Option (Int)
  | 0, _, _, _, _, _, _, _ => none
  | k + 1, x12, x134000, x134001, x134002, x135000, x135001, x135002 => if x12 = true then (some 11) else (if x134000 = x135000 then (some 0) else (some 2))
def virgationref11_two.f (k : Nat) (a0_0 : Int) (a0_1 : Int) (l0_2 : List (List Int)) (a1_0 : Int) (a1_1 : Int) (l1_2 : List (List Int)) : Option (Int) := (virgationref11_Is.f k a0_0 a0_1 l0_2).bind fun t135 => (if t135 = true then ((virgationref11_Is.f k a1_0 a1_1 l1_2).bind fun t136 => (virgationref11_two.j0 k (!t136) a0_0 a0_1 l0_2 a1_0 a1_1 l1_2)) else (virgationref11_two.j0 k true a0_0 a0_1 l0_2 a1_0 a1_1 l1_2))
set_option maxHeartbeats 8000000 in
set_option maxRecDepth 100000 in
theorem virgationref11_two.calls (k : Nat) (a0_0 : Int) (a0_1 : Int) (A0_2 : Option Addr) (c0_2 : Nat) (l0_2 : List (List Int)) (a1_0 : Int) (a1_1 : Int) (A1_2 : Option Addr) (c1_2 : Nat) (l1_2 : List (List Int)) (r : Int) (w : World) (hr0_2 : Kd.C (Kd.slice 3 (Kd.int .i64)) w A0_2 l0_2.length l0_2) (hc0_2 : l0_2.length ≤ c0_2) (hr1_2 : Kd.C (Kd.slice 3 (Kd.int .i64)) w A1_2 l1_2.length l1_2) (hc1_2 : l1_2.length ≤ c1_2) (h : virgationref11_two.f k a0_0 a0_1 l0_2 a1_0 a1_1 l1_2 = some r) :
    Calls Try.prog 46 #[.agg #[.int .i64 a0_0, .int .i64 a0_1, .slice A0_2 l0_2.length c0_2], .agg #[.int .i64 a1_0, .int .i64 a1_1, .slice A1_2 l1_2.length c1_2]] w fun e w' => e = .returned (.int .i64 r) ∧ Below w.heap.size w w' := by
  have hu24 := Try.underlying24
  have HR0_2 := Aside0.mk hr0_2
  have HC0_2 := Aside0.mk hc0_2
  clear hr0_2 hc0_2
  have HR1_2 := Aside0.mk hr1_2
  have HC1_2 := Aside0.mk hc1_2
  clear hr1_2 hc1_2
  have HB := Aside0.mk (Below.refl w.heap.size w)
  have H : ((virgationref11_Is.f k a0_0 a0_1 l0_2).bind fun t135 => (if t135 = true then ((virgationref11_Is.f k a1_0 a1_1 l1_2).bind fun t136 => (virgationref11_two.j0 k (!t136) a0_0 a0_1 l0_2 a1_0 a1_1 l1_2)) else (virgationref11_two.j0 k true a0_0 a0_1 l0_2 a1_0 a1_1 l1_2))) = some r := h
  clear h
  have HC3 := Aside0.mk H
  clear H
  go_enter Try.func46, Try.ntmps46
  go_upto_region 1 with (first | ((with_reducible refine gate_dst (N := 2) rfl ?_); refine box_event ?hg (N := 2) ?hd (cs := #[.int .i64 a0_0, .int .i64 a0_1, .slice A0_2 l0_2.length c0_2]) (t := 24) ?hr ?_; (case hd => rfl); (case hg => rfl); (case hr => first | (go_simp; done) | (go_simp; rfl)); intro gb133 hg w4 hbox hb; have n0_ := Aside0.mk (below_step (by repeat (first | (with_reducible first | exact HB.out | apply below_alloc | apply pw_below_drewN | apply below_drew1) | exact HB.out)) hb); have n1_ := Aside0.mk (hbox); have n2_ := Aside0.mk ((by rw [hg]; exact (below_size (by repeat (first | (with_reducible first | exact HB.out | apply below_alloc | apply pw_below_drewN | apply below_drew1) | exact HB.out))) : w.heap.size ≤ gb133)); have n3_ := Aside0.mk ((by rw [hg]; exact (below_size (by repeat (first | (with_reducible first | exact HB.out | apply below_alloc | apply pw_below_drewN | apply below_drew1) | exact HB.out))) : w.heap.size ≤ gb133)); clear HB; have HB := n0_; have BK133 := n1_; have GW133 := n2_; have GE133 := n3_; clear n0_ n1_ n2_ n3_; clear hb hbox hg) | ((with_reducible refine gate_dst (N := 3) rfl ?_); refine box_event ?hg (N := 3) ?hd (cs := #[.int .i64 a1_0, .int .i64 a1_1, .slice A1_2 l1_2.length c1_2]) (t := 24) ?hr ?_; (case hd => rfl); (case hg => rfl); (case hr => first | (go_simp; done) | (go_simp; rfl)); intro gb134 hg w5 hbox hb; have n0_ := Aside0.mk (blk_below (g := gb133) (o := .cells #[.int .i64 a0_0, .int .i64 a0_1, .slice A0_2 l0_2.length c0_2] 24 (0, 0)) (by (with_reducible repeat (first | refine blk_drewN ?_ _ | refine blk_drew ?_ | refine blk_alloc ?_ _)); exact BK133.out) hb); have n1_ := Aside0.mk (below_step (by repeat (first | (with_reducible first | exact HB.out | apply below_alloc | apply pw_below_drewN | apply below_drew1 | refine below_set ?_ GE133.out) | exact HB.out)) hb); have n2_ := Aside0.mk (hbox); have n3_ := Aside0.mk ((by rw [hg]; exact (below_size (by repeat (first | (with_reducible first | exact HB.out | apply below_alloc | apply pw_below_drewN | apply below_drew1 | refine below_set ?_ GE133.out) | exact HB.out))) : w.heap.size ≤ gb134)); have n4_ := Aside0.mk ((by rw [hg]; exact (below_size (by repeat (first | (with_reducible first | exact HB.out | apply below_alloc | apply pw_below_drewN | apply below_drew1 | refine below_set ?_ GE133.out) | exact HB.out))) : w.heap.size ≤ gb134)); have n5_ := Aside0.mk ((by rw [hg]; exact Nat.ne_of_lt (blk_lt (g := gb133) (o := .cells #[.int .i64 a0_0, .int .i64 a0_1, .slice A0_2 l0_2.length c0_2] 24 (0, 0)) (by (with_reducible repeat (first | refine blk_drewN ?_ _ | refine blk_drew ?_ | refine blk_alloc ?_ _)); exact BK133.out)) : gb133 ≠ gb134)); have n6_ := Aside0.mk ((by rw [hg]; exact Nat.ne_of_gt (blk_lt (g := gb133) (o := .cells #[.int .i64 a0_0, .int .i64 a0_1, .slice A0_2 l0_2.length c0_2] 24 (0, 0)) (by (with_reducible repeat (first | refine blk_drewN ?_ _ | refine blk_drew ?_ | refine blk_alloc ?_ _)); exact BK133.out)) : gb134 ≠ gb133)); clear BK133; clear HB; have BK133 := n0_; have HB := n1_; have BK134 := n2_; have GW134 := n3_; have GE134 := n4_; have NB133_134 := n5_; have NB134_133 := n6_; clear n0_ n1_ n2_ n3_ n4_ n5_ n6_; clear hb hbox hg))
  (try simp only [Act.put, List.setIfInBounds_toArray, List.set_cons_zero, List.set_cons_succ])
  go_cut [12] (fun v12 wc => ∃ (kq : Nat) (x12_2 : Bool), v12 = .bool x12_2 ∧ Aside0 (virgationref11_two.j0 kq x12_2 a0_0 a0_1 l0_2 a1_0 a1_1 l1_2 = some r) ∧ Aside0 (kq ≤ k) ∧ Aside0 (wc.heap[gb133]? = some (.cells #[.int .i64 a0_0, .int .i64 a0_1, (.slice A0_2 l0_2.length c0_2)] 24 (0, 0))) ∧ Aside0 (wc.heap[gb134]? = some (.cells #[.int .i64 a1_0, .int .i64 a1_1, (.slice A1_2 l1_2.length c1_2)] 24 (0, 0))) ∧ Aside0 (Below w.heap.size w wc))
  case first =>
    have H := HC3.out
    clear HC3
    replace H := Option.bind_eq_some_iff.mp H
    obtain ⟨t135, A60, H⟩ := H
    replace H : (if t135 = true then ((virgationref11_Is.f k a1_0 a1_1 l1_2).bind fun t136 => (virgationref11_two.j0 k (!t136) a0_0 a0_1 l0_2 a1_0 a1_1 l1_2)) else (virgationref11_two.j0 k true a0_0 a0_1 l0_2 a1_0 a1_1 l1_2)) = some r := H
    have A6 := Aside0.mk A60
    clear A60
    by_cases c7 : t135 = true
    · subst c7
      have H1 : ((virgationref11_Is.f k a1_0 a1_1 l1_2).bind fun t136 => (virgationref11_two.j0 k (!t136) a0_0 a0_1 l0_2 a1_0 a1_1 l1_2)) = some r := by rw [if_pos rfl] at H; exact H
      clear H
      have H := H1
      clear H1
      replace H := Option.bind_eq_some_iff.mp H
      obtain ⟨t136, A80, H⟩ := H
      replace H : (virgationref11_two.j0 k (!t136) a0_0 a0_1 l0_2 a1_0 a1_1 l1_2) = some r := H
      have A8 := Aside0.mk A80
      clear A80
      have H' := Aside0.mk H
      clear H
      have hnb9 := NB133_134.out
      have hnc9 := NB134_133.out
      have hcz10_0 : w5.cell? ⟨gb133, 0, none⟩ = some (.int .i64 a0_0) := (blk_cell BK133.out 0).trans rfl
      have hcz10_1 : w5.cell? ⟨gb133, 1, none⟩ = some (.int .i64 a0_1) := (blk_cell BK133.out 1).trans rfl
      have hcz10_2 : w5.cell? ⟨gb133, 2, none⟩ = some (.slice A0_2 l0_2.length c0_2) := (blk_cell BK133.out 2).trans rfl
      have hfz10_0 := blk_frozen BK133.out 0
      have hfz10_1 := blk_frozen BK133.out 1
      have hfz10_2 := blk_frozen BK133.out 2
      go_wp2_with (first | ((with_reducible refine gate_callee (f := 20) rfl ?_); refine goesL_ (some 6) rfl rfl Try.func20 (by kernel_rfl) rfl #[.agg #[.int .i64 a0_0, .int .i64 a0_1, .slice A0_2 l0_2.length c0_2]] rfl (by (try simp only [List.map_toArray, List.map_cons, List.map_nil]); first | done | rfl | (simp only [List.length_drop, List.length_take]; rfl)) ?_; (with_reducible refine (virgationref11_Is.calls k a0_0 a0_1 _ _ l0_2 true _ ?side1 ?side2 A6.out).mono ?_); (case side1 => repeat (first | exact (Kd.C_below HR0_2.out HB.out) | (with_reducible refine Kd.C_alloc ?_ _) | (with_reducible refine Kd.C_drewN ?_ _) | (with_reducible refine Kd.C_drew ?_))); (case side2 => exact HC0_2.out); rintro e w11 ⟨rfl, hb⟩; refine ⟨_, rfl, ?_⟩; have n0_ := Aside0.mk (blk_below (g := gb133) (o := .cells #[.int .i64 a0_0, .int .i64 a0_1, .slice A0_2 l0_2.length c0_2] 24 (0, 0)) (by (with_reducible repeat (first | refine blk_drewN ?_ _ | refine blk_drew ?_ | refine blk_alloc ?_ _)); exact BK133.out) hb); have n1_ := Aside0.mk (blk_below (g := gb134) (o := .cells #[.int .i64 a1_0, .int .i64 a1_1, .slice A1_2 l1_2.length c1_2] 24 (0, 0)) (by (with_reducible repeat (first | refine blk_drewN ?_ _ | refine blk_drew ?_ | refine blk_alloc ?_ _)); exact BK134.out) hb); have n2_ := Aside0.mk (below_step (by repeat (first | (with_reducible first | exact HB.out | apply below_alloc | apply pw_below_drewN | apply below_drew1 | refine below_set ?_ GE133.out | refine below_set ?_ GE134.out) | exact HB.out)) hb); clear BK133; clear BK134; clear HB; have BK133 := n0_; have BK134 := n1_; have HB := n2_; clear n0_ n1_ n2_; (try clear hb); (try clear hb2); (try clear hk); (try clear hi); have hcz12_0 : w11.cell? ⟨gb134, 0, none⟩ = some (.int .i64 a1_0) := (blk_cell BK134.out 0).trans rfl; have hcz12_1 : w11.cell? ⟨gb134, 1, none⟩ = some (.int .i64 a1_1) := (blk_cell BK134.out 1).trans rfl; have hcz12_2 : w11.cell? ⟨gb134, 2, none⟩ = some (.slice A1_2 l1_2.length c1_2) := (blk_cell BK134.out 2).trans rfl; have hfz12_0 := blk_frozen BK134.out 0; have hfz12_1 := blk_frozen BK134.out 1; have hfz12_2 := blk_frozen BK134.out 2) | (go_at_call 20; (with_reducible refine (virgationref11_Is.calls k a1_0 a1_1 _ _ l1_2 t136 _ ?side1 ?side2 A8.out).mono ?_); (case side1 => repeat (first | exact (Kd.C_below HR1_2.out HB.out) | (with_reducible refine Kd.C_alloc ?_ _) | (with_reducible refine Kd.C_drewN ?_ _) | (with_reducible refine Kd.C_drew ?_))); (case side2 => exact HC1_2.out); rintro e w13 ⟨rfl, hb⟩; have n0_ := Aside0.mk (blk_below (g := gb133) (o := .cells #[.int .i64 a0_0, .int .i64 a0_1, .slice A0_2 l0_2.length c0_2] 24 (0, 0)) (by (with_reducible repeat (first | refine blk_drewN ?_ _ | refine blk_drew ?_ | refine blk_alloc ?_ _)); exact BK133.out) hb); have n1_ := Aside0.mk (blk_below (g := gb134) (o := .cells #[.int .i64 a1_0, .int .i64 a1_1, .slice A1_2 l1_2.length c1_2] 24 (0, 0)) (by (with_reducible repeat (first | refine blk_drewN ?_ _ | refine blk_drew ?_ | refine blk_alloc ?_ _)); exact BK134.out) hb); have n2_ := Aside0.mk (below_step (by repeat (first | (with_reducible first | exact HB.out | apply below_alloc | apply pw_below_drewN | apply below_drew1 | refine below_set ?_ GE133.out | refine below_set ?_ GE134.out) | exact HB.out)) hb); clear BK133; clear BK134; clear HB; have BK133 := n0_; have BK134 := n1_; have HB := n2_; clear n0_ n1_ n2_; (try clear hb); (try clear hb2); (try clear hk); (try clear hi)))
      go_meet
      case rel => exact ⟨_, (!t136), (by first | rfl | (simp; done) | (simp [*]; done)), H', ⟨by first | omega | exact Nat.le_refl _⟩, ⟨by (with_reducible repeat (first | refine blk_drewN ?_ _ | refine blk_drew ?_ | refine blk_alloc ?_ _)); exact BK133.out⟩, ⟨by (with_reducible repeat (first | refine blk_drewN ?_ _ | refine blk_drew ?_ | refine blk_alloc ?_ _)); exact BK134.out⟩, ⟨by repeat (first | (with_reducible first | exact HB.out | apply below_alloc | apply pw_below_drewN | apply below_drew1 | refine below_set ?_ GE133.out | refine below_set ?_ GE134.out) | exact HB.out)⟩⟩
    · replace c7 := Bool.eq_false_iff.mpr c7
      subst c7
      have H1 : (virgationref11_two.j0 k true a0_0 a0_1 l0_2 a1_0 a1_1 l1_2) = some r := by rw [if_neg (show ¬ (false = true) by decide)] at H; exact H
      clear H
      have H := H1
      clear H1
      have H' := Aside0.mk H
      clear H
      have hnb14 := NB133_134.out
      have hnc14 := NB134_133.out
      have hcz15_0 : w5.cell? ⟨gb133, 0, none⟩ = some (.int .i64 a0_0) := (blk_cell BK133.out 0).trans rfl
      have hcz15_1 : w5.cell? ⟨gb133, 1, none⟩ = some (.int .i64 a0_1) := (blk_cell BK133.out 1).trans rfl
      have hcz15_2 : w5.cell? ⟨gb133, 2, none⟩ = some (.slice A0_2 l0_2.length c0_2) := (blk_cell BK133.out 2).trans rfl
      have hfz15_0 := blk_frozen BK133.out 0
      have hfz15_1 := blk_frozen BK133.out 1
      have hfz15_2 := blk_frozen BK133.out 2
      go_wp2_with (first | ((with_reducible refine gate_callee (f := 20) rfl ?_); refine goesL_ (some 6) rfl rfl Try.func20 (by kernel_rfl) rfl #[.agg #[.int .i64 a0_0, .int .i64 a0_1, .slice A0_2 l0_2.length c0_2]] rfl (by (try simp only [List.map_toArray, List.map_cons, List.map_nil]); first | done | rfl | (simp only [List.length_drop, List.length_take]; rfl)) ?_; (with_reducible refine (virgationref11_Is.calls k a0_0 a0_1 _ _ l0_2 false _ ?side1 ?side2 A6.out).mono ?_); (case side1 => repeat (first | exact (Kd.C_below HR0_2.out HB.out) | (with_reducible refine Kd.C_alloc ?_ _) | (with_reducible refine Kd.C_drewN ?_ _) | (with_reducible refine Kd.C_drew ?_))); (case side2 => exact HC0_2.out); rintro e w16 ⟨rfl, hb⟩; refine ⟨_, rfl, ?_⟩; have n0_ := Aside0.mk (blk_below (g := gb133) (o := .cells #[.int .i64 a0_0, .int .i64 a0_1, .slice A0_2 l0_2.length c0_2] 24 (0, 0)) (by (with_reducible repeat (first | refine blk_drewN ?_ _ | refine blk_drew ?_ | refine blk_alloc ?_ _)); exact BK133.out) hb); have n1_ := Aside0.mk (blk_below (g := gb134) (o := .cells #[.int .i64 a1_0, .int .i64 a1_1, .slice A1_2 l1_2.length c1_2] 24 (0, 0)) (by (with_reducible repeat (first | refine blk_drewN ?_ _ | refine blk_drew ?_ | refine blk_alloc ?_ _)); exact BK134.out) hb); have n2_ := Aside0.mk (below_step (by repeat (first | (with_reducible first | exact HB.out | apply below_alloc | apply pw_below_drewN | apply below_drew1 | refine below_set ?_ GE133.out | refine below_set ?_ GE134.out) | exact HB.out)) hb); clear BK133; clear BK134; clear HB; have BK133 := n0_; have BK134 := n1_; have HB := n2_; clear n0_ n1_ n2_; (try clear hb); (try clear hb2); (try clear hk); (try clear hi)))
      go_meet
      case rel => exact ⟨_, (true), (by first | rfl | (simp; done) | (simp [*]; done)), H', ⟨by first | omega | exact Nat.le_refl _⟩, ⟨by (with_reducible repeat (first | refine blk_drewN ?_ _ | refine blk_drew ?_ | refine blk_alloc ?_ _)); exact BK133.out⟩, ⟨by (with_reducible repeat (first | refine blk_drewN ?_ _ | refine blk_drew ?_ | refine blk_alloc ?_ _)); exact BK134.out⟩, ⟨by repeat (first | (with_reducible first | exact HB.out | apply below_alloc | apply pw_below_drewN | apply below_drew1 | refine below_set ?_ GE133.out | refine below_set ?_ GE134.out) | exact HB.out)⟩⟩
  case rest =>
    clear HC3
    try clear c1
    try clear c2
    try clear p2
    try clear c4
    try clear c7
    try clear c9
    try clear c14
    try clear hcz10_0
    try clear hcz10_1
    try clear hcz10_2
    try clear hcz12_0
    try clear hcz12_1
    try clear hcz12_2
    try clear hcz15_0
    try clear hcz15_1
    try clear hcz15_2
    try clear hfz10_0
    try clear hfz10_1
    try clear hfz10_2
    try clear hfz12_0
    try clear hfz12_1
    try clear hfz12_2
    try clear hfz15_0
    try clear hfz15_1
    try clear hfz15_2
    obtain ⟨kq, x12_2, rfl, HA, HJ2, BK133, BK134, HB⟩ := hcut
    cases kq with
    | zero => exact absurd HA.out (by simp [virgationref11_two.j0])
    | succ kj2 =>
      have H := HA.out
      clear HA
      simp only [virgationref11_two.j0] at H
      by_cases c17 : x12_2 = true
      · subst c17
        have H1 : (some 11) = some r := by rw [if_pos rfl] at H; exact H
        clear H
        have H := H1
        clear H1
        obtain rfl := Option.some.inj H
        go_wp2
        go_ret
        exact ⟨by first | rfl | (simp [errW_none, errW_some] <;> rfl) | (simp [*, errW_none, errW_some] <;> rfl), by repeat (first | (with_reducible first | exact HB.out | apply below_alloc | apply pw_below_drewN | apply below_drew1 | refine below_set ?_ GE133.out | refine below_set ?_ GE134.out) | exact HB.out)⟩
      · replace c17 := Bool.eq_false_iff.mpr c17
        subst c17
        have H1 : (if a0_0 = a1_0 then (some 0) else (some 2)) = some r := by rw [if_neg (show ¬ (false = true) by decide)] at H; exact H
        clear H
        have H := H1
        clear H1
        by_cases c18 : a0_0 = a1_0
        · rw [if_pos c18] at H
          have c18b0 : (a0_0 == a1_0) = true := beq_iff_eq.mpr c18
          have c18b1 : (a0_0 != a1_0) = false := bne_eq_false_iff_eq.mpr c18
          clear c18
          obtain rfl := Option.some.inj H
          have hnb19 := NB133_134.out
          have hnc19 := NB134_133.out
          have hcz20_0 : wc.cell? ⟨gb133, 0, none⟩ = some (.int .i64 a0_0) := (blk_cell BK133.out 0).trans rfl
          have hcz20_1 : wc.cell? ⟨gb133, 1, none⟩ = some (.int .i64 a0_1) := (blk_cell BK133.out 1).trans rfl
          have hcz20_2 : wc.cell? ⟨gb133, 2, none⟩ = some (.slice A0_2 l0_2.length c0_2) := (blk_cell BK133.out 2).trans rfl
          have hfz20_0 := blk_frozen BK133.out 0
          have hfz20_1 := blk_frozen BK133.out 1
          have hfz20_2 := blk_frozen BK133.out 2
          have hcz21_0 : wc.cell? ⟨gb134, 0, none⟩ = some (.int .i64 a1_0) := (blk_cell BK134.out 0).trans rfl
          have hcz21_1 : wc.cell? ⟨gb134, 1, none⟩ = some (.int .i64 a1_1) := (blk_cell BK134.out 1).trans rfl
          have hcz21_2 : wc.cell? ⟨gb134, 2, none⟩ = some (.slice A1_2 l1_2.length c1_2) := (blk_cell BK134.out 2).trans rfl
          have hfz21_0 := blk_frozen BK134.out 0
          have hfz21_1 := blk_frozen BK134.out 1
          have hfz21_2 := blk_frozen BK134.out 2
          go_wp2
          go_ret
          exact ⟨by first | rfl | (simp [errW_none, errW_some] <;> rfl) | (simp [*, errW_none, errW_some] <;> rfl), by repeat (first | (with_reducible first | exact HB.out | apply below_alloc | apply pw_below_drewN | apply below_drew1 | refine below_set ?_ GE133.out | refine below_set ?_ GE134.out) | exact HB.out)⟩
        · rw [if_neg c18] at H
          have c18b0 : (a0_0 == a1_0) = false := beq_eq_false_iff_ne.mpr c18
          have c18b1 : (a0_0 != a1_0) = true := bne_iff_ne.mpr c18
          obtain rfl := Option.some.inj H
          have hnb22 := NB133_134.out
          have hnc22 := NB134_133.out
          have hcz23_0 : wc.cell? ⟨gb133, 0, none⟩ = some (.int .i64 a0_0) := (blk_cell BK133.out 0).trans rfl
          have hcz23_1 : wc.cell? ⟨gb133, 1, none⟩ = some (.int .i64 a0_1) := (blk_cell BK133.out 1).trans rfl
          have hcz23_2 : wc.cell? ⟨gb133, 2, none⟩ = some (.slice A0_2 l0_2.length c0_2) := (blk_cell BK133.out 2).trans rfl
          have hfz23_0 := blk_frozen BK133.out 0
          have hfz23_1 := blk_frozen BK133.out 1
          have hfz23_2 := blk_frozen BK133.out 2
          have hcz24_0 : wc.cell? ⟨gb134, 0, none⟩ = some (.int .i64 a1_0) := (blk_cell BK134.out 0).trans rfl
          have hcz24_1 : wc.cell? ⟨gb134, 1, none⟩ = some (.int .i64 a1_1) := (blk_cell BK134.out 1).trans rfl
          have hcz24_2 : wc.cell? ⟨gb134, 2, none⟩ = some (.slice A1_2 l1_2.length c1_2) := (blk_cell BK134.out 2).trans rfl
          have hfz24_0 := blk_frozen BK134.out 0
          have hfz24_1 := blk_frozen BK134.out 1
          have hfz24_2 := blk_frozen BK134.out 2
          go_wp2
          go_ret
          exact ⟨by first | rfl | (simp [errW_none, errW_some] <;> rfl) | (simp [*, errW_none, errW_some] <;> rfl), by repeat (first | (with_reducible first | exact HB.out | apply below_alloc | apply pw_below_drewN | apply below_drew1 | refine below_set ?_ GE133.out | refine below_set ?_ GE134.out) | exact HB.out)⟩
def virgationref11_next.f (a0_0 : Int) (a0_1 : Int) (l0_2 : List (List Int)) (a1 : Int) (a2 : Int) : Option (Int) := if a1 < 0 then (some (-1)) else (if 0 ≤ a1 then (if a1 < (l0_2.length : Int) then (if 0 ≤ a2 then (if a2 < ((rd_L1 l0_2 a1).length : Int) then (some (rd (rd_L1 l0_2 a1) a2)) else (none)) else (none)) else (none)) else (none))
set_option maxHeartbeats 8000000 in
set_option maxRecDepth 100000 in
theorem virgationref11_next.calls (a0_0 : Int) (a0_1 : Int) (A0_2 : Option Addr) (c0_2 : Nat) (l0_2 : List (List Int)) (a1 : Int) (a2 : Int) (r : Int) (w : World) (hr0_2 : Kd.C (Kd.slice 3 (Kd.int .i64)) w A0_2 l0_2.length l0_2) (hc0_2 : l0_2.length ≤ c0_2) (h : virgationref11_next.f a0_0 a0_1 l0_2 a1 a2 = some r) :
    Calls Try.prog 47 #[.agg #[.int .i64 a0_0, .int .i64 a0_1, .slice A0_2 l0_2.length c0_2], .int .i64 a1, .int .i64 a2] w fun e w' => e = .returned (.int .i64 r) ∧ Below w.heap.size w w' := by
  have hu24 := Try.underlying24
  have HR0_2 := Aside0.mk hr0_2
  have HC0_2 := Aside0.mk hc0_2
  clear hr0_2 hc0_2
  have HB := Aside0.mk (Below.refl w.heap.size w)
  have H : (if a1 < 0 then (some (-1)) else (if 0 ≤ a1 then (if a1 < (l0_2.length : Int) then (if 0 ≤ a2 then (if a2 < ((rd_L1 l0_2 a1).length : Int) then (some (rd (rd_L1 l0_2 a1) a2)) else (none)) else (none)) else (none)) else (none))) = some r := h
  clear h
  by_cases c4 : a1 < 0
  · rw [if_pos c4] at H
    have c4b0 : decide (a1 < 0) = true := decide_eq_true c4
    clear c4
    obtain rfl := Option.some.inj H
    go_enter Try.func47, Try.ntmps47
    go_wp2_with (first | ((with_reducible refine gate_dst (N := 3) rfl ?_); refine box_event ?hg (N := 3) ?hd (cs := #[.int .i64 a0_0, .int .i64 a0_1, .slice A0_2 l0_2.length c0_2]) (t := 24) ?hr ?_; (case hd => rfl); (case hg => rfl); (case hr => first | (go_simp; done) | (go_simp; rfl)); intro gb137 hg w5 hbox hb; have n0_ := Aside0.mk (below_step (by repeat (first | (with_reducible first | exact HB.out | apply below_alloc | apply pw_below_drewN | apply below_drew1) | exact HB.out)) hb); have n1_ := Aside0.mk (hbox); have n2_ := Aside0.mk ((by rw [hg]; exact (below_size (by repeat (first | (with_reducible first | exact HB.out | apply below_alloc | apply pw_below_drewN | apply below_drew1) | exact HB.out))) : w.heap.size ≤ gb137)); have n3_ := Aside0.mk ((by rw [hg]; exact (below_size (by repeat (first | (with_reducible first | exact HB.out | apply below_alloc | apply pw_below_drewN | apply below_drew1) | exact HB.out))) : w.heap.size ≤ gb137)); clear HB; have HB := n0_; have BK137 := n1_; have GW137 := n2_; have GE137 := n3_; clear n0_ n1_ n2_ n3_; clear hb hbox hg))
    go_ret
    exact ⟨by first | rfl | (simp [errW_none, errW_some] <;> rfl) | (simp [*, errW_none, errW_some] <;> rfl), by repeat (first | (with_reducible first | exact HB.out | apply below_alloc | apply pw_below_drewN | apply below_drew1 | refine below_set ?_ GE137.out) | exact HB.out)⟩
  · rw [if_neg c4] at H
    have c4b0 : decide (a1 < 0) = false := decide_eq_false c4
    clear c4
    by_cases c6 : 0 ≤ a1
    · rw [if_pos c6] at H
      have c6b0 : decide (0 ≤ a1) = true := decide_eq_true c6
      clear c6
      by_cases c7 : a1 < (l0_2.length : Int)
      · rw [if_pos c7] at H
        have c7b0 : decide (a1 < (l0_2.length : Int)) = true := decide_eq_true c7
        clear c7
        by_cases c8 : 0 ≤ a2
        · rw [if_pos c8] at H
          have c8b0 : decide (0 ≤ a2) = true := decide_eq_true c8
          clear c8
          by_cases c9 : a2 < ((rd_L1 l0_2 a1).length : Int)
          · rw [if_pos c9] at H
            have c9b0 : decide (a2 < ((rd_L1 l0_2 a1).length : Int)) = true := decide_eq_true c9
            clear c9
            obtain rfl := Option.some.inj H
            go_enter Try.func47, Try.ntmps47
            go_wp2_with (first | ((with_reducible refine gate_dst (N := 3) rfl ?_); refine box_event ?hg (N := 3) ?hd (cs := #[.int .i64 a0_0, .int .i64 a0_1, .slice A0_2 l0_2.length c0_2]) (t := 24) ?hr ?_; (case hd => rfl); (case hg => rfl); (case hr => first | (go_simp; done) | (go_simp; rfl)); intro gb137 hg w10 hbox hb; have n0_ := Aside0.mk (below_step (by repeat (first | (with_reducible first | exact HB.out | apply below_alloc | apply pw_below_drewN | apply below_drew1) | exact HB.out)) hb); have n1_ := Aside0.mk (hbox); have n2_ := Aside0.mk ((by rw [hg]; exact (below_size (by repeat (first | (with_reducible first | exact HB.out | apply below_alloc | apply pw_below_drewN | apply below_drew1) | exact HB.out))) : w.heap.size ≤ gb137)); have n3_ := Aside0.mk ((by rw [hg]; exact (below_size (by repeat (first | (with_reducible first | exact HB.out | apply below_alloc | apply pw_below_drewN | apply below_drew1) | exact HB.out))) : w.heap.size ≤ gb137)); clear HB; have HB := n0_; have BK137 := n1_; have GW137 := n2_; have GE137 := n3_; clear n0_ n1_ n2_ n3_; clear hb hbox hg; have hcz11_0 : w10.cell? ⟨gb137, 0, none⟩ = some (.int .i64 a0_0) := (blk_cell BK137.out 0).trans rfl; have hcz11_1 : w10.cell? ⟨gb137, 1, none⟩ = some (.int .i64 a0_1) := (blk_cell BK137.out 1).trans rfl; have hcz11_2 : w10.cell? ⟨gb137, 2, none⟩ = some (.slice A0_2 l0_2.length c0_2) := (blk_cell BK137.out 2).trans rfl; have hfz11_0 := blk_frozen BK137.out 0; have hfz11_1 := blk_frozen BK137.out 1; have hfz11_2 := blk_frozen BK137.out 2; have p138 : 0 ≤ (a1 : Int) := of_decide_eq_true (by first | (with_reducible assumption) | assumption); have q138 : a1 < (l0_2.length : Int) := of_decide_eq_true (by first | (with_reducible assumption) | assumption); obtain ⟨ad138, A138_0, c138_0, e138, hx138_0, hl138_0, hi138_0⟩ := at_L1 HR0_2.out a1 p138 q138; cases e138; replace hx138_0 := (HB.out.cell (World.block_lt_of_cell? w _ hx138_0)).trans hx138_0; have HR138_0 := Aside0.mk hi138_0; have HC138_0 := Aside0.mk hl138_0; clear hi138_0 hl138_0; replace p138 := eq_true p138; replace q138 := eq_true q138; have p139 : 0 ≤ (a2 : Int) := of_decide_eq_true (by first | (with_reducible assumption) | assumption); have q139 : a2 < ((rd_L1 l0_2 a1).length : Int) := of_decide_eq_true (by first | (with_reducible assumption) | assumption); obtain ⟨ad139, e139, hx139_0⟩ := Kd.at_int HR138_0.out a2 p139 q139; cases e139; replace hx139_0 := (HB.out.cell (World.block_lt_of_cell? w _ hx139_0)).trans hx139_0; replace p139 := eq_true p139; replace q139 := eq_true q139))
            go_ret
            exact ⟨by first | rfl | (simp [errW_none, errW_some] <;> rfl) | (simp [*, errW_none, errW_some] <;> rfl), by repeat (first | (with_reducible first | exact HB.out | apply below_alloc | apply pw_below_drewN | apply below_drew1 | refine below_set ?_ GE137.out) | exact HB.out)⟩
          · rw [if_neg c9] at H
            exact absurd H (by simp)
        · rw [if_neg c8] at H
          exact absurd H (by simp)
      · rw [if_neg c7] at H
        exact absurd H (by simp)
    · rw [if_neg c6] at H
      exact absurd H (by simp)
def virgationlaw11_ints.l0 : Nat → List Int → List Int → Int → Int → Option (Bool)
  | 0, _, _, _, _ => none
  | k + 1, x0, x1, x12, x13 => if x13 < x12 then (if 0 ≤ x13 then (if x13 < (x0.length : Int) then (if x13 < (x1.length : Int) then (if (rd x0 x13) = (rd x1 x13) then (virgationlaw11_ints.l0 k x0 x1 x12 (wrap64 (x13 + 1))) else (some false)) else (none)) else (none)) else (none)) else (some true)
def virgationlaw11_ints.f (k : Nat) (l0 : List Int) (l1 : List Int) : Option (Bool) := if (l0.length : Int) = (l1.length : Int) then (virgationlaw11_ints.l0 k l0 l1 (l0.length : Int) 0) else (some false)
set_option maxHeartbeats 8000000 in
set_option maxRecDepth 100000 in
theorem virgationlaw11_ints.calls (k : Nat) (A0 : Option Addr) (c0 : Nat) (l0 : List Int) (A1 : Option Addr) (c1 : Nat) (l1 : List Int) (r : Bool) (w : World) (hr0 : Kd.C (Kd.int .i64) w A0 l0.length l0) (hc0 : l0.length ≤ c0) (hr1 : Kd.C (Kd.int .i64) w A1 l1.length l1) (hc1 : l1.length ≤ c1) (h : virgationlaw11_ints.f k l0 l1 = some r) :
    Calls Try.prog 25 #[.slice A0 l0.length c0, .slice A1 l1.length c1] w fun e w' => e = .returned (.bool r) ∧ Drawn0 w w' := by
  have HR0 := Aside0.mk hr0
  have HC0 := Aside0.mk hc0
  clear hr0 hc0
  have HR1 := Aside0.mk hr1
  have HC1 := Aside0.mk hc1
  clear hr1 hc1
  have H : (if (l0.length : Int) = (l1.length : Int) then (virgationlaw11_ints.l0 k l0 l1 (l0.length : Int) 0) else (some false)) = some r := h
  clear h
  by_cases c3 : (l0.length : Int) = (l1.length : Int)
  · rw [if_pos c3] at H
    have c3b0 : ((l0.length : Int) == (l1.length : Int)) = true := beq_iff_eq.mpr c3
    have c3b1 : ((l0.length : Int) != (l1.length : Int)) = false := bne_eq_false_iff_eq.mpr c3
    have c3b2 : (l0.length == l1.length) = true := by first | simpa using c3 | (simp at c3 ⊢; omega)
    clear c3
    have H' := Aside0.mk H
    clear H
    go_enter Try.func25, Try.ntmps25
    go_wp2
    repeat (go_quiet (fail); try go_wp2)
    go_loopg [13] k (fun kq v13 w' => ∃ (x13_1 : Int), v13 = .int .i64 x13_1 ∧ Aside0 (virgationlaw11_ints.l0 kq l0 l1 (l0.length : Int) x13_1 = some r) ∧ Aside0 (kq ≤ k) ∧ Drawn0 w w')
    case atStart => exact ⟨(0), (by first | rfl | (simp; done) | (simp [*]; done)), H', ⟨Nat.le_refl _⟩, by repeat (first | exact Drawn0.refl _ | apply Drawn0.step)⟩
    case round =>
      clear H'
      try clear c1
      try clear c2
      try clear p2
      try clear c3
      try clear c3b0
      try clear c3b1
      try clear c3b2
      obtain ⟨x13_1, rfl, HA, HK1, ⟨m1, rfl⟩⟩ := hrel
      cases gk with
      | zero => exact absurd HA.out (by simp [virgationlaw11_ints.l0])
      | succ k1 =>
        have H := HA.out
        clear HA
        simp only [virgationlaw11_ints.l0] at H
        by_cases c4 : x13_1 < (l0.length : Int)
        · rw [if_pos c4] at H
          have c4b0 : decide (x13_1 < (l0.length : Int)) = true := decide_eq_true c4
          clear c4
          by_cases c5 : 0 ≤ x13_1
          · rw [if_pos c5] at H
            have c5b0 : decide (0 ≤ x13_1) = true := decide_eq_true c5
            clear c5
            by_cases c6 : x13_1 < (l0.length : Int)
            · rw [if_pos c6] at H
              have c6b0 : decide (x13_1 < (l0.length : Int)) = true := decide_eq_true c6
              clear c6
              by_cases c7 : x13_1 < (l1.length : Int)
              · rw [if_pos c7] at H
                have c7b0 : decide (x13_1 < (l1.length : Int)) = true := decide_eq_true c7
                clear c7
                by_cases c8 : (rd l0 x13_1) = (rd l1 x13_1)
                · rw [if_pos c8] at H
                  have c8b0 : ((rd l0 x13_1) == (rd l1 x13_1)) = true := beq_iff_eq.mpr c8
                  have c8b1 : ((rd l0 x13_1) != (rd l1 x13_1)) = false := bne_eq_false_iff_eq.mpr c8
                  clear c8
                  have H' := Aside0.mk H
                  clear H
                  have p140 : 0 ≤ (x13_1 : Int) := of_decide_eq_true (by first | (with_reducible assumption) | assumption)
                  have q140 : x13_1 < (l0.length : Int) := of_decide_eq_true (by first | (with_reducible assumption) | assumption)
                  obtain ⟨ad140, e140, hx140_0⟩ := Kd.at_int HR0.out x13_1 p140 q140
                  cases e140
                  replace p140 := eq_true p140
                  replace q140 := eq_true q140
                  have p141 : 0 ≤ (x13_1 : Int) := of_decide_eq_true (by first | (with_reducible assumption) | assumption)
                  have q141 : x13_1 < (l1.length : Int) := of_decide_eq_true (by first | (with_reducible assumption) | assumption)
                  obtain ⟨ad141, e141, hx141_0⟩ := Kd.at_int HR1.out x13_1 p141 q141
                  cases e141
                  replace p141 := eq_true p141
                  replace q141 := eq_true q141
                  go_wp2
                  repeat (go_quiet (fail); try go_wp2)
                  go_roundg k1
                  case measure => have := HK1.out; omega
                  case rel => exact ⟨(wrap64 (x13_1 + 1)), (by first | rfl | (simp; done) | (simp [*]; done)), H', ⟨by have := HK1.out; omega⟩, by repeat (first | exact Drawn0.refl _ | apply Drawn0.step)⟩
                · rw [if_neg c8] at H
                  have c8b0 : ((rd l0 x13_1) == (rd l1 x13_1)) = false := beq_eq_false_iff_ne.mpr c8
                  have c8b1 : ((rd l0 x13_1) != (rd l1 x13_1)) = true := bne_iff_ne.mpr c8
                  obtain rfl := Option.some.inj H
                  have p140 : 0 ≤ (x13_1 : Int) := of_decide_eq_true (by first | (with_reducible assumption) | assumption)
                  have q140 : x13_1 < (l0.length : Int) := of_decide_eq_true (by first | (with_reducible assumption) | assumption)
                  obtain ⟨ad140, e140, hx140_0⟩ := Kd.at_int HR0.out x13_1 p140 q140
                  cases e140
                  replace p140 := eq_true p140
                  replace q140 := eq_true q140
                  have p141 : 0 ≤ (x13_1 : Int) := of_decide_eq_true (by first | (with_reducible assumption) | assumption)
                  have q141 : x13_1 < (l1.length : Int) := of_decide_eq_true (by first | (with_reducible assumption) | assumption)
                  obtain ⟨ad141, e141, hx141_0⟩ := Kd.at_int HR1.out x13_1 p141 q141
                  cases e141
                  replace p141 := eq_true p141
                  replace q141 := eq_true q141
                  go_wp2
                  repeat (go_quiet (fail); try go_wp2)
                  go_ret
                  exact ⟨by first | rfl | (simp; done) | (simp [*]; done), by repeat (first | exact Drawn0.refl _ | apply Drawn0.step)⟩
              · rw [if_neg c7] at H
                exact absurd H (by simp)
            · rw [if_neg c6] at H
              exact absurd H (by simp)
          · rw [if_neg c5] at H
            exact absurd H (by simp)
        · rw [if_neg c4] at H
          have c4b0 : decide (x13_1 < (l0.length : Int)) = false := decide_eq_false c4
          clear c4
          obtain rfl := Option.some.inj H
          go_wp2
          repeat (go_quiet (fail); try go_wp2)
          go_ret
          exact ⟨by first | rfl | (simp; done) | (simp [*]; done), by repeat (first | exact Drawn0.refl _ | apply Drawn0.step)⟩
  · rw [if_neg c3] at H
    have c3b0 : ((l0.length : Int) == (l1.length : Int)) = false := beq_eq_false_iff_ne.mpr c3
    have c3b1 : ((l0.length : Int) != (l1.length : Int)) = true := bne_iff_ne.mpr c3
    have c3b2 : (l0.length == l1.length) = false := by first | simpa using c3 | (simp at c3 ⊢; omega)
    obtain rfl := Option.some.inj H
    go_enter Try.func25, Try.ntmps25
    go_wp2
    repeat (go_quiet (fail); try go_wp2)
    go_ret
    exact ⟨by first | rfl | (simp; done) | (simp [*]; done), by repeat (first | exact Drawn0.refl _ | apply Drawn0.step)⟩
end Go.Proofs.Ytmphigeefppfpaa.Q
namespace Go.Proofs.Ytmphigeefppfpaa.H
open Go.RowKit Go.Proofs.YtmphigeefppfpaaW.PrintWords Go.Proofs.YtmphigeefppfpaaW.PrintLast Go.Proofs.YtmphigeefppfpaaW.PrintMore
theorem keep_below {w W W1 : World} (hb : Below W.heap.size W W1) (h : Aside0 (Below w.heap.size w W)) : Aside0 (Below w.heap.size w W1) := ⟨below_then h.out h.out.size hb⟩
theorem keep_blk {W W1 : World} {g : Nat} {o : Obj} (hb : Below W.heap.size W W1) (h : Aside0 (W.heap[g]? = some o)) : Aside0 (W1.heap[g]? = some o) := ⟨blk_below h.out hb⟩
theorem held3 {W : World} {g : Nat} {a b c : Value} (h : Aside0 (W.heap[g]? = some (.cells #[a, b, c] 24 (0, 0)))) : W.cell? ⟨g, 0, none⟩ = some a ∧ W.cell? ⟨g, 1, none⟩ = some b ∧ W.cell? ⟨g, 2, none⟩ = some c :=
  ⟨(blk_cell h.out 0).trans rfl, (blk_cell h.out 1).trans rfl, (blk_cell h.out 2).trans rfl⟩
def two3 (w W : World) (x y : Array Value) : Prop := Aside0 (Below w.heap.size w W) ∧ Aside0 (W.heap[w.heap.size]? = some (.cells x 24 (0, 0))) ∧ Aside0 (W.heap[w.heap.size + 1]? = some (.cells y 24 (0, 0)))
theorem two3_keep {w W W1 : World} {x y : Array Value} (hb : Below W.heap.size W W1) (h : two3 w W x y) : two3 w W1 x y := ⟨keep_below hb h.1, keep_blk hb h.2.1, keep_blk hb h.2.2⟩
theorem two3_held {w W : World} {a b c a' b' c' : Value} (h : two3 w W #[a, b, c] #[a', b', c']) : (W.cell? ⟨w.heap.size, 0, none⟩ = some a ∧ W.cell? ⟨w.heap.size, 1, none⟩ = some b ∧ W.cell? ⟨w.heap.size, 2, none⟩ = some c) ∧
    (W.cell? ⟨w.heap.size + 1, 0, none⟩ = some a' ∧ W.cell? ⟨w.heap.size + 1, 1, none⟩ = some b' ∧ W.cell? ⟨w.heap.size + 1, 2, none⟩ = some c') := ⟨held3 h.2.1, held3 h.2.2⟩
end Go.Proofs.Ytmphigeefppfpaa.H
namespace Go.Proofs.Ytmphigeefppfpaa.H
open Go.RowKit Go.Proofs.YtmphigeefppfpaaW.PrintWords Go.Proofs.YtmphigeefppfpaaW.PrintLast Go.Proofs.YtmphigeefppfpaaW.PrintMore
set_option linter.unusedVariables false
theorem spec_table {ev st : Int} {l : List (List Int)} (hs : specOk ev st l = true) : tableOk ev.toNat l ∧ domS l st ∧ 0 ≤ ev ∧ ev ≤ 16 ∧ 1 ≤ l.length ∧ l.length ≤ 64 := by
  have hh := headOk_true (specOk_head hs)
  refine ⟨fun row hm => ?_, ⟨by omega, by omega⟩, by omega, by omega, by omega, by omega⟩
  simp only [specOk, Bool.and_eq_true, List.all_eq_true] at hs
  have h2 := hs.2 row hm
  simp only [rowOk, Bool.and_eq_true, decide_eq_true_eq, List.all_eq_true] at h2
  exact ⟨by omega, h2.2⟩
end Go.Proofs.Ytmphigeefppfpaa.H
namespace Go.Proofs.Ytmphigeefppfpaa.H
open Go.RowKit Go.Proofs.YtmphigeefppfpaaW.PrintWords Go.Proofs.YtmphigeefppfpaaW.PrintLast Go.Proofs.YtmphigeefppfpaaW.PrintMore
set_option linter.unusedVariables false
/-- The state behind an event, or -1. -/
def nextB (l : List (List Int)) (q e : Int) : Int := if q < 0 then -1 else stepAt l q e
def domN (l : List (List Int)) (q : Int) : Prop := -1 ≤ q ∧ q < (l.length : Int)
theorem nextB_dom {ev st : Int} {l : List (List Int)} (hs : specOk ev st l = true) {q e : Int} (hq : domN l q) (h0 : 0 ≤ e) (h1 : e < ev) : domN l (nextB l q e) := by
  unfold nextB
  split
  · exact ⟨by omega, by have := (spec_table hs).2.2.2.2.1; omega⟩
  · exact stepAt_range hs (by omega) hq.2 h0 h1
theorem next_val {ev st : Int} {l : List (List Int)} (hs : specOk ev st l = true) {q e : Int} (hq : domN l q) (h0 : 0 ≤ e) (h1 : e < ev) : Q.spec_next.f ev st l q e = some (nextB l q e) := by
  unfold Q.spec_next.f nextB stepAt
  by_cases hn : q < 0
  · rw [if_pos hn, if_pos hn]
  · have hl := (specOk_row hs (q := q) (by omega) hq.2).1
    rw [if_neg hn, if_neg hn, if_pos (by omega), if_pos hq.2, if_pos h0, if_pos (by omega)]
theorem next_calls {ev st : Int} {l : List (List Int)} (hs : specOk ev st l = true) {q e : Int} (hq : domN l q) (h0 : 0 ≤ e) (h1 : e < ev) (A : Option Addr) (c : Nat) (w : World) (hr : Kd.C (Kd.slice 3 (Kd.int .i64)) w A l.length l) (hc : l.length ≤ c) :
    Calls Try.prog 44 #[.agg #[.int .i64 ev, .int .i64 st, .slice A l.length c], .int .i64 q, .int .i64 e] w fun E w' => E = .returned (.int .i64 (nextB l q e)) ∧ Below w.heap.size w w' :=
  Q.spec_next.calls ev st A c l q e _ w hr hc (next_val hs hq h0 h1)
end Go.Proofs.Ytmphigeefppfpaa.H
namespace Go.Proofs.Ytmphigeefppfpaa.H
open Go.RowKit Go.Proofs.YtmphigeefppfpaaW.PrintWords Go.Proofs.YtmphigeefppfpaaW.PrintLast Go.Proofs.YtmphigeefppfpaaW.PrintMore
set_option linter.unusedVariables false
section
variable {w W W1 : World} {bs : List (Nat × Array Value)} {cs : List (Option Addr × List (List Int))}
theorem mem1 {α : Type} {a b : α} {l : List α} : b ∈ a :: b :: l := List.mem_cons_of_mem _ List.mem_cons_self
end
end Go.Proofs.Ytmphigeefppfpaa.H
namespace Go.Proofs.Ytmphigeefppfpaa.H
open Go.RowKit Go.Proofs.YtmphigeefppfpaaW.PrintWords Go.Proofs.YtmphigeefppfpaaW.PrintLast Go.Proofs.YtmphigeefppfpaaW.PrintMore
set_option linter.unusedVariables false
def pairs (la lb : List (List Int)) : Nat := (la.length + 1) * (lb.length + 1)
def domQ (la lb : List (List Int)) (x : Int × Int) : Prop := domN la x.1 ∧ domN lb x.2
theorem code_lt {a b u v : Nat} (ha : a < u) (hb : b < v) : a * v + b < u * v := by
  calc a * v + b < a * v + v := by omega
    _ = (a + 1) * v := by rw [Nat.add_mul, Nat.one_mul]
    _ ≤ u * v := Nat.mul_le_mul_right _ ha
theorem code_inj {a b a' b' v : Nat} (hb : b < v) (hb' : b' < v) (h : a * v + b = a' * v + b') : a = a' ∧ b = b' := by
  have h1 : (a * v + b) / v = a := by rw [Nat.mul_comm, Nat.mul_add_div (by omega), Nat.div_eq_of_lt hb, Nat.add_zero]
  have h2 : (a' * v + b') / v = a' := by rw [Nat.mul_comm, Nat.mul_add_div (by omega), Nat.div_eq_of_lt hb', Nat.add_zero]
  have h3 : a = a' := by rw [← h1, ← h2, h]
  subst h3
  exact ⟨rfl, by omega⟩
theorem pairs_le {ev sa sb : Int} {la lb : List (List Int)} (ha : specOk ev sa la = true) (hb : specOk ev sb lb = true) : pairs la lb ≤ 4225 := by
  have h1 := (spec_table ha).2.2.2.2.2
  have h2 := (spec_table hb).2.2.2.2.2
  exact Nat.le_trans (Nat.mul_le_mul (Nat.succ_le_succ h1) (Nat.succ_le_succ h2)) (by decide)
def pairVal (ea sa : Int) (la : List (List Int)) (eb sb : Int) (lb : List (List Int)) : Int := if specOk ea sa la then (if specOk eb sb lb then (if ea = eb then 0 else 2) else 11) else 11
theorem pairVal_zero {ea sa : Int} {la : List (List Int)} {eb sb : Int} {lb : List (List Int)} (h : pairVal ea sa la eb sb lb = 0) : specOk ea sa la = true ∧ specOk eb sb lb = true ∧ ea = eb := by
  unfold pairVal at h
  split at h
  · split at h
    · split at h
      · exact ⟨by assumption, by assumption, by assumption⟩
      · simp at h
    · simp at h
  · simp at h
theorem two3_begin (w : World) (x y : Array Value) : two3 w ((w.alloc (.cells x 24)).alloc (.cells y 24)) x y := ⟨⟨below_alloc (below_alloc (Below.refl _ _) _) _⟩, ⟨blk_alloc (blk_new w (.cells x 24)) (.cells y 24)⟩, ⟨blk_at2 w (.cells x 24) (.cells y 24)⟩⟩
set_option maxHeartbeats 1000000 in
theorem pair_calls (ea sa : Int) (A : Option Addr) (ca : Nat) (la : List (List Int)) (eb sb : Int) (B : Option Addr) (cb : Nat) (lb : List (List Int)) (w : World) (hra : Kd.C (Kd.slice 3 (Kd.int .i64)) w A la.length la) (hrb : Kd.C (Kd.slice 3 (Kd.int .i64)) w B lb.length lb) :
    Calls Try.prog 43 #[.agg #[.int .i64 ea, .int .i64 sa, .slice A la.length ca], .agg #[.int .i64 eb, .int .i64 sb, .slice B lb.length cb]] w fun E w' => E = .returned (.int .i64 (pairVal ea sa la eb sb lb)) ∧ Below w.heap.size w w' := by
  have H1 := Aside0.mk fun W (hW : Below w.heap.size w W) => check_calls ea sa A ca la W (Kd.C_below hra hW)
  have H2 := Aside0.mk fun W (hW : Below w.heap.size w W) => check_calls eb sb B cb lb W (Kd.C_below hrb hW)
  clear hra hrb
  cases h1 : specOk ea sa la with
  | false =>
    rw [show pairVal ea sa la eb sb lb = 11 from by simp [pairVal, h1]]
    rw [show checkVal ea sa la = 11 from by simp [checkVal, h1]] at H1
    clear h1
    go_enter Try.func43, Try.ntmps43
    go_upto_region 1 with (fail)
    have HS := two3_begin w #[.int .i64 ea, .int .i64 sa, .slice A la.length ca] #[.int .i64 eb, .int .i64 sb, .slice B lb.length cb]
    generalize ((w.alloc (.cells #[.int .i64 ea, .int .i64 sa, .slice A la.length ca] 24)).alloc (.cells #[.int .i64 eb, .int .i64 sb, .slice B lb.length cb] 24)) = w0 at *
    obtain ⟨⟨hc0, hc1, hc2⟩, hd0, hd1, hd2⟩ := two3_held HS
    go_wp2_with fail
    refine (H1.out _ (HS.1).out).mono ?_
    rintro E w1 ⟨rfl, hb⟩
    have HS1 := two3_keep hb HS
    clear hb HS hc0 hc1 hc2 hd0 hd1 hd2 H1
    obtain ⟨⟨hc0, hc1, hc2⟩, hd0, hd1, hd2⟩ := two3_held HS1
    go_wp2
    go_ret
    exact ⟨rfl, (HS1.1).out⟩
  | true =>
    rw [show checkVal ea sa la = 0 from by simp [checkVal, h1]] at H1
    cases h2 : specOk eb sb lb with
    | false =>
      rw [show pairVal ea sa la eb sb lb = 11 from by simp [pairVal, h1, h2]]
      rw [show checkVal eb sb lb = 11 from by simp [checkVal, h2]] at H2
      clear h1 h2
      go_enter Try.func43, Try.ntmps43
      go_upto_region 1 with (fail)
      have HS := two3_begin w #[.int .i64 ea, .int .i64 sa, .slice A la.length ca] #[.int .i64 eb, .int .i64 sb, .slice B lb.length cb]
      generalize ((w.alloc (.cells #[.int .i64 ea, .int .i64 sa, .slice A la.length ca] 24)).alloc (.cells #[.int .i64 eb, .int .i64 sb, .slice B lb.length cb] 24)) = w0 at *
      obtain ⟨⟨hc0, hc1, hc2⟩, hd0, hd1, hd2⟩ := two3_held HS
      go_wp2_with fail
      refine (H1.out _ (HS.1).out).mono ?_
      rintro E w1 ⟨rfl, hb⟩
      have HS1 := two3_keep hb HS
      clear hb HS hc0 hc1 hc2 hd0 hd1 hd2 H1
      obtain ⟨⟨hc0, hc1, hc2⟩, hd0, hd1, hd2⟩ := two3_held HS1
      go_wp2_with fail
      refine (H2.out _ (HS1.1).out).mono ?_
      rintro E w2 ⟨rfl, hb⟩
      have HS2 := two3_keep hb HS1
      clear hb HS1 hc0 hc1 hc2 hd0 hd1 hd2 H2
      obtain ⟨⟨hc0, hc1, hc2⟩, hd0, hd1, hd2⟩ := two3_held HS2
      go_wp2
      go_ret
      exact ⟨rfl, (HS2.1).out⟩
    | true =>
      rw [show checkVal eb sb lb = 0 from by simp [checkVal, h2]] at H2
      by_cases he : ea = eb
      · rw [show pairVal ea sa la eb sb lb = 0 from by unfold pairVal; rw [h1, h2, if_pos rfl, if_pos rfl, if_pos he]]
        have he2 : (ea == eb) = true := beq_iff_eq.2 he
        clear h1 h2 he
        go_enter Try.func43, Try.ntmps43
        go_upto_region 1 with (fail)
        have HS := two3_begin w #[.int .i64 ea, .int .i64 sa, .slice A la.length ca] #[.int .i64 eb, .int .i64 sb, .slice B lb.length cb]
        generalize ((w.alloc (.cells #[.int .i64 ea, .int .i64 sa, .slice A la.length ca] 24)).alloc (.cells #[.int .i64 eb, .int .i64 sb, .slice B lb.length cb] 24)) = w0 at *
        obtain ⟨⟨hc0, hc1, hc2⟩, hd0, hd1, hd2⟩ := two3_held HS
        go_wp2_with fail
        refine (H1.out _ (HS.1).out).mono ?_
        rintro E w1 ⟨rfl, hb⟩
        have HS1 := two3_keep hb HS
        clear hb HS hc0 hc1 hc2 hd0 hd1 hd2 H1
        obtain ⟨⟨hc0, hc1, hc2⟩, hd0, hd1, hd2⟩ := two3_held HS1
        go_wp2_with fail
        refine (H2.out _ (HS1.1).out).mono ?_
        rintro E w2 ⟨rfl, hb⟩
        have HS2 := two3_keep hb HS1
        clear hb HS1 hc0 hc1 hc2 hd0 hd1 hd2 H2
        obtain ⟨⟨hc0, hc1, hc2⟩, hd0, hd1, hd2⟩ := two3_held HS2
        go_wp2
        go_ret
        exact ⟨rfl, (HS2.1).out⟩
      · rw [show pairVal ea sa la eb sb lb = 2 from by simp [pairVal, h1, h2, he]]
        have he2 : (ea == eb) = false := beq_eq_false_iff_ne.2 he
        clear h1 h2 he
        go_enter Try.func43, Try.ntmps43
        go_upto_region 1 with (fail)
        have HS := two3_begin w #[.int .i64 ea, .int .i64 sa, .slice A la.length ca] #[.int .i64 eb, .int .i64 sb, .slice B lb.length cb]
        generalize ((w.alloc (.cells #[.int .i64 ea, .int .i64 sa, .slice A la.length ca] 24)).alloc (.cells #[.int .i64 eb, .int .i64 sb, .slice B lb.length cb] 24)) = w0 at *
        obtain ⟨⟨hc0, hc1, hc2⟩, hd0, hd1, hd2⟩ := two3_held HS
        go_wp2_with fail
        refine (H1.out _ (HS.1).out).mono ?_
        rintro E w1 ⟨rfl, hb⟩
        have HS1 := two3_keep hb HS
        clear hb HS hc0 hc1 hc2 hd0 hd1 hd2 H1
        obtain ⟨⟨hc0, hc1, hc2⟩, hd0, hd1, hd2⟩ := two3_held HS1
        go_wp2_with fail
        refine (H2.out _ (HS1.1).out).mono ?_
        rintro E w2 ⟨rfl, hb⟩
        have HS2 := two3_keep hb HS1
        clear hb HS1 hc0 hc1 hc2 hd0 hd1 hd2 H2
        obtain ⟨⟨hc0, hc1, hc2⟩, hd0, hd1, hd2⟩ := two3_held HS2
        go_wp2
        go_ret
        exact ⟨rfl, (HS2.1).out⟩
end Go.Proofs.Ytmphigeefppfpaa.H
namespace Go.Proofs.Ytmphigeefppfpaa.H
open Go.RowKit Go.Proofs.YtmphigeefppfpaaW.PrintWords Go.Proofs.YtmphigeefppfpaaW.PrintLast Go.Proofs.YtmphigeefppfpaaW.PrintMore
set_option linter.unusedVariables false
/-- A pair of states, the word that leads there, the pair ahead of it and the last event. -/
structure PT where
  p : Int × Int
  wd : List Int
  par : Int × Int
  ev : Int
def root (s : Int × Int) : PT := ⟨s, [], (0, 0), 0⟩
def stp (la lb : List (List Int)) (p : Int × Int) (e : Nat) : Int × Int := (nextB la p.1 e, nextB lb p.2 e)
def nxt (la lb : List (List Int)) (x : PT) (e : Nat) : PT := ⟨stp la lb x.p e, x.wd ++ [(e : Int)], x.p, e⟩
def oneB (y : Int × Int) : Bool := decide (y.1 < 0) != decide (y.2 < 0)
def seenB (y : Int × Int) (l : List PT) : Bool := decide (y.1 < 0) || l.any fun z => decide (z.p = y)
def apRow (la lb : List (List Int)) (x : PT) (l : List PT) : Nat → List PT
  | 0 => l
  | e + 1 => if oneB (stp la lb x.p e) || seenB (stp la lb x.p e) (apRow la lb x l e) then apRow la lb x l e else apRow la lb x l e ++ [nxt la lb x e]
def apTo (la lb : List (List Int)) (n : Nat) (s : Int × Int) : Nat → List PT
  | 0 => [root s]
  | i + 1 => match (apTo la lb n s i)[i]? with
    | some x => apRow la lb x (apTo la lb n s i) n
    | none => apTo la lb n s i
/-- The word that is found in the first e events behind x. -/
def rowAns (la lb : List (List Int)) (x : PT) : Nat → Option (List Int)
  | 0 => none
  | e + 1 => match rowAns la lb x e with
    | some w => some w
    | none => if oneB (stp la lb x.p e) then some (x.wd ++ [(e : Int)]) else none
def apAns (la lb : List (List Int)) (n : Nat) (s : Int × Int) : Nat → Option (List Int)
  | 0 => none
  | i + 1 => match apAns la lb n s i with
    | some w => some w
    | none => (apTo la lb n s i)[i]?.bind fun x => rowAns la lb x n
section
variable {la lb : List (List Int)} {n e e' i m N : Nat} {s : Int × Int} {x : PT} {l : List PT}
theorem rowAns_found (h : rowAns la lb x e = none) (h1 : oneB (stp la lb x.p e) = true) : ∀ d, rowAns la lb x (e + 1 + d) = some (x.wd ++ [(e : Int)])
  | 0 => by rw [Nat.add_zero, rowAns, h]; simp only; rw [if_pos h1]
  | d + 1 => by rw [← Nat.add_assoc, rowAns, rowAns_found h h1 d]
theorem rowAns_next (h : rowAns la lb x e = none) (h1 : oneB (stp la lb x.p e) = false) : rowAns la lb x (e + 1) = none := by
  rw [rowAns, h]; simp only; rw [if_neg (by simp [h1])]
theorem apAns_found {w : List Int} (h : apAns la lb n s i = none) (hx : (apTo la lb n s i)[i]? = some x) (h1 : rowAns la lb x n = some w) : ∀ d, apAns la lb n s (i + 1 + d) = some w
  | 0 => by rw [Nat.add_zero, apAns, h]; simp only; rw [hx]; exact h1
  | d + 1 => by rw [← Nat.add_assoc, apAns, apAns_found h hx h1 d]
theorem apAns_next (h : apAns la lb n s i = none) (hx : (apTo la lb n s i)[i]? = some x) (h1 : rowAns la lb x n = none) : apAns la lb n s (i + 1) = none := by
  rw [apAns, h]; simp only; rw [hx]; exact h1
theorem apAns_end (h : apAns la lb n s i = none) (hx : (apTo la lb n s i)[i]? = none) : apAns la lb n s (i + 1) = none := by
  rw [apAns, h]; simp only; rw [hx]; rfl
theorem apTo_step (hx : (apTo la lb n s i)[i]? = some x) : apTo la lb n s (i + 1) = apRow la lb x (apTo la lb n s i) n := by
  rw [apTo]; simp only [hx]
theorem apTo_stop (hx : (apTo la lb n s i)[i]? = none) : apTo la lb n s (i + 1) = apTo la lb n s i := by
  rw [apTo]; simp only [hx]
theorem apTo_stays (hx : (apTo la lb n s i)[i]? = none) (d : Nat) : apTo la lb n s (i + d) = apTo la lb n s i := by
  induction d with
  | zero => rfl
  | succ d ih =>
    rw [← Nat.add_assoc, apTo_stop, ih]
    rw [ih]
    rw [List.getElem?_eq_none_iff] at hx ⊢
    omega
theorem apAns_stays (h : apAns la lb n s i = none) (hx : (apTo la lb n s i)[i]? = none) (d : Nat) : apAns la lb n s (i + d) = none := by
  induction d with
  | zero => exact h
  | succ d ih =>
    rw [← Nat.add_assoc]
    refine apAns_end ih ?_
    rw [apTo_stays hx d]
    rw [List.getElem?_eq_none_iff] at hx ⊢
    omega
theorem apRow_pre : ∃ r, apRow la lb x l e = l ++ r := by
  induction e with
  | zero => exact ⟨[], by simp [apRow]⟩
  | succ e ih =>
    obtain ⟨r, hr⟩ := ih
    simp only [apRow]
    split
    · exact ⟨r, hr⟩
    · exact ⟨r ++ [nxt la lb x e], by rw [hr, List.append_assoc]⟩
theorem apRow_mono (h : e ≤ e') : (apRow la lb x l e).length ≤ (apRow la lb x l e').length := by
  induction e' with
  | zero => obtain rfl : e = 0 := by omega
            exact Nat.le_refl _
  | succ e' ih =>
    rcases Nat.lt_or_ge e (e' + 1) with h1 | h1
    · refine Nat.le_trans (ih (by omega)) ?_
      simp only [apRow]
      split
      · exact Nat.le_refl _
      · simp
    · obtain rfl : e = e' + 1 := by omega
      exact Nat.le_refl _
structure Chain (s : Int × Int) (L : List PT) : Prop where
  nd : (L.map (·.p)).Nodup
  hr : root s ∈ L
  hc : ∀ t ∈ L, t = root s ∨ (t.p ≠ s ∧ ∃ q ∈ L, q.p = t.par ∧ t.wd = q.wd ++ [t.ev])
theorem Chain.start : Chain s [root s] := ⟨by simp, List.mem_singleton.2 rfl, fun t ht => .inl (List.mem_singleton.1 ht)⟩
theorem Chain.snoc2 {L : List PT} (h : Chain s L) (hx : x ∈ L) (y : Int × Int) (ev : Int) (hn : y ∉ L.map (·.p)) : Chain s (L ++ [⟨y, x.wd ++ [ev], x.p, ev⟩]) := by
  refine ⟨?_, List.mem_append_left _ h.hr, fun t ht => ?_⟩
  · rw [List.map_append]
    exact List.nodup_append.2 ⟨h.nd, by simp, fun a ha b hb => by
      simp only [List.map_cons, List.map_nil, List.mem_singleton] at hb
      rw [hb]; exact fun he => hn (by rw [← he]; exact ha)⟩
  · rcases List.mem_append.1 ht with ht | ht
    · rcases h.hc t ht with h1 | ⟨h1, q, hq, h2⟩
      · exact .inl h1
      · exact .inr ⟨h1, q, List.mem_append_left _ hq, h2⟩
    · rw [List.mem_singleton.1 ht]
      exact .inr ⟨fun e => hn (List.mem_map.2 ⟨_, h.hr, e.symm⟩), x, List.mem_append_left _ hx, rfl, rfl⟩
theorem Chain.snoc {L : List PT} (h : Chain s L) (hx : x ∈ L) (hn : stp la lb x.p e ∉ L.map (·.p)) : Chain s (L ++ [nxt la lb x e]) := h.snoc2 hx _ _ hn
theorem nodup_inj {α β : Type} {f : α → β} : ∀ {L : List α}, (L.map f).Nodup → ∀ {a b : α}, a ∈ L → b ∈ L → f a = f b → a = b
  | [], _, _, _, ha, _, _ => absurd ha List.not_mem_nil
  | z :: L, h, a, b, ha, hb, he => by
    rw [List.map_cons, List.nodup_cons] at h
    rcases List.mem_cons.1 ha with h1 | ha
    · rcases List.mem_cons.1 hb with h2 | hb
      · rw [h1, h2]
      · exact absurd (List.mem_map.2 ⟨b, hb, by rw [← he, h1]⟩) h.1
    · rcases List.mem_cons.1 hb with h2 | hb
      · exact absurd (List.mem_map.2 ⟨a, ha, by rw [he, h2]⟩) h.1
      · exact nodup_inj h.2 ha hb he
def ents (L : List PT) : List ((Int × Int) × ((Int × Int) × Int)) := L.map fun t => (t.p, (t.par, t.ev))
theorem ents_keys (L : List PT) : (ents L).map (·.1) = L.map (·.p) := by simp [ents, Function.comp_def]
theorem mget_ents : ∀ {L : List PT}, (L.map (·.p)).Nodup → ∀ {t : PT}, t ∈ L → mget t.p (ents L) = some (t.par, t.ev)
  | [], _, _, ht => absurd ht List.not_mem_nil
  | z :: L, h, t, ht => by
    rw [List.map_cons, List.nodup_cons] at h
    rcases List.mem_cons.1 ht with h1 | ht
    · subst h1; simp [ents, mget]
    · have hne : z.p ≠ t.p := fun e => h.1 (List.mem_map.2 ⟨t, ht, e.symm⟩)
      have := mget_ents h.2 ht
      simp only [ents, mget, List.map_cons, List.find?_cons, decide_eq_false hne] at this ⊢
      exact this
theorem seen_iff {y : Int × Int} {l : List PT} : seenB y l = true ↔ y.1 < 0 ∨ y ∈ l.map (·.p) := by
  unfold seenB
  rw [Bool.or_eq_true, decide_eq_true_eq, List.any_eq_true, List.mem_map]
  simp
theorem apRow_chain (hc : Chain s l) (hx : x ∈ l) : Chain s (apRow la lb x l e) := by
  induction e with
  | zero => exact hc
  | succ e ih =>
    simp only [apRow]
    split
    · exact ih
    · rename_i hs
      refine ih.snoc ?_ (fun hm => hs ?_)
      · obtain ⟨r, hr⟩ := apRow_pre (la := la) (lb := lb) (x := x) (l := l) (e := e)
        rw [hr]; exact List.mem_append_left _ hx
      · rw [Bool.or_eq_true]
        exact .inr (seen_iff.2 (.inr hm))
theorem apTo_chain : ∀ i, Chain s (apTo la lb n s i)
  | 0 => Chain.start
  | i + 1 => by
    cases hx : (apTo la lb n s i)[i]? with
    | none => rw [apTo_stop hx]; exact apTo_chain i
    | some x => rw [apTo_step hx]; exact apRow_chain (apTo_chain i) (List.mem_of_getElem? hx)
/-- Both states are states. -/
def domB (la lb : List (List Int)) (p : Int × Int) : Prop := domS la p.1 ∧ domS lb p.2
theorem domB.q {p : Int × Int} (h : domB la lb p) : domQ la lb p := ⟨⟨by have := h.1.1; omega, h.1.2⟩, ⟨by have := h.2.1; omega, h.2.2⟩⟩
theorem stp_dom {ev sa sb : Int} (ha : specOk ev sa la = true) (hb : specOk ev sb lb = true) {p : Int × Int} (hp : domQ la lb p) (he : (e : Int) < ev) : domQ la lb (stp la lb p e) :=
  ⟨nextB_dom ha hp.1 (by omega) he, nextB_dom hb hp.2 (by omega) he⟩
theorem stp_both {p : Int × Int} (h : domQ la lb p) (h1 : oneB p = false) (h2 : ¬ p.1 < 0) : domB la lb p := by
  unfold oneB at h1
  rw [decide_eq_false h2] at h1
  have h3 : ¬ p.2 < 0 := fun h => by rw [decide_eq_true h] at h1; simp at h1
  exact ⟨⟨by omega, h.1.2⟩, ⟨by omega, h.2.2⟩⟩
theorem apRow_dom {ev sa sb : Int} (ha : specOk ev sa la = true) (hb : specOk ev sb lb = true) (hl : ∀ t ∈ l, domB la lb t.p) (hx : domB la lb x.p) : ∀ e : Nat, (e : Int) ≤ ev → ∀ t ∈ apRow la lb x l e, domB la lb t.p
  | 0, _ => hl
  | e + 1, he => by
    have ih := apRow_dom ha hb hl hx e (by omega)
    intro t ht
    simp only [apRow] at ht
    split at ht
    · exact ih t ht
    · rename_i hs
      rcases List.mem_append.1 ht with ht | ht
      · exact ih t ht
      · rw [List.mem_singleton.1 ht]
        rw [Bool.or_eq_true, not_or] at hs
        exact stp_both (stp_dom ha hb hx.q (by omega)) (show oneB (stp la lb x.p e) = false by simpa using hs.1) (fun h => hs.2 (seen_iff.2 (.inl h)))
theorem apTo_dom {sa sb : Int} (ha : specOk n sa la = true) (hb : specOk n sb lb = true) (hs : domB la lb s) : ∀ i, ∀ t ∈ apTo la lb n s i, domB la lb t.p
  | 0 => fun t ht => by rw [List.mem_singleton.1 ht]; exact hs
  | i + 1 => by
    cases hx : (apTo la lb n s i)[i]? with
    | none => rw [apTo_stop hx]; exact apTo_dom ha hb hs i
    | some x =>
      rw [apTo_step hx]
      exact apRow_dom ha hb (apTo_dom ha hb hs i) (apTo_dom ha hb hs i x (List.mem_of_getElem? hx)) n (Int.le_refl _)
theorem pairs_bound {L : List (Int × Int)} (hn : L.Nodup) (hd : ∀ p ∈ L, domQ la lb p) : L.length ≤ pairs la lb := by
  let f : Int × Int → Nat := fun x => (x.1 + 1).toNat * (lb.length + 1) + (x.2 + 1).toNat
  have h2 : (L.map f).Nodup := by
    refine List.Pairwise.map _ ?_ (List.Pairwise.imp_of_mem (R := fun a b => a ≠ b) (S := fun a b => f a ≠ f b) ?_ hn)
    · exact fun a b h => h
    · intro a b ha hb hne he
      obtain ⟨⟨a1, a2⟩, a3, a4⟩ := hd a ha
      obtain ⟨⟨b1, b2⟩, b3, b4⟩ := hd b hb
      obtain ⟨e1, e2⟩ := code_inj (by omega) (by omega) he
      exact hne (Prod.ext (by omega) (by omega))
  have h3 := h2.length_le_of_subset (l₂ := List.range (pairs la lb)) (fun x hx => by
    obtain ⟨a, ha, rfl⟩ := List.mem_map.1 hx
    obtain ⟨⟨a1, a2⟩, a3, a4⟩ := hd a ha
    exact List.mem_range.2 (code_lt (by omega) (by omega)))
  simpa using h3
theorem apTo_le {sa sb : Int} (ha : specOk n sa la = true) (hb : specOk n sb lb = true) (hs : domB la lb s) (i : Nat) : (apTo la lb n s i).length ≤ pairs la lb := by
  have h := pairs_bound (la := la) (lb := lb) (apTo_chain (la := la) (lb := lb) (n := n) (s := s) i).nd (fun p hp => by
    obtain ⟨t, ht, rfl⟩ := List.mem_map.1 hp
    exact (apTo_dom ha hb hs i t ht).q)
  simpa using h
theorem one_new (hl : ∀ t ∈ l, domB la lb t.p) {y : Int × Int} (h : oneB y = true) : y ∉ l.map (·.p) := fun hm => by
  obtain ⟨t, ht, rfl⟩ := List.mem_map.1 hm
  have h1 := (hl t ht).1.1
  have h2 := (hl t ht).2.1
  unfold oneB at h
  rw [decide_eq_false (by omega), decide_eq_false (by omega)] at h
  simp at h
/-- A word's length is no more than the pairs. -/
theorem apRow_wd (hl : ∀ t ∈ l, t.wd.length ≤ m) (hx : x.wd.length < m) : ∀ t ∈ apRow la lb x l e, t.wd.length ≤ m := by
  induction e with
  | zero => exact hl
  | succ e ih =>
    intro t ht
    simp only [apRow] at ht
    split at ht
    · exact ih t ht
    · rcases List.mem_append.1 ht with ht | ht
      · exact ih t ht
      · rw [List.mem_singleton.1 ht]
        simp [nxt]; omega
theorem apTo_wd : ∀ i, ∀ t ∈ apTo la lb n s i, t.wd.length ≤ i
  | 0 => fun t ht => by rw [List.mem_singleton.1 ht]; simp [root]
  | i + 1 => by
    cases hx : (apTo la lb n s i)[i]? with
    | none => rw [apTo_stop hx]; exact fun t ht => Nat.le_succ_of_le (apTo_wd i t ht)
    | some x =>
      rw [apTo_step hx]
      exact apRow_wd (fun t ht => Nat.le_succ_of_le (apTo_wd i t ht)) (Nat.lt_succ_of_le (apTo_wd i x (List.mem_of_getElem? hx)))
end
end Go.Proofs.Ytmphigeefppfpaa.H
namespace Go.Proofs.Ytmphigeefppfpaa.H
open Go.RowKit Go.Proofs.YtmphigeefppfpaaW.PrintWords Go.Proofs.YtmphigeefppfpaaW.PrintLast Go.Proofs.YtmphigeefppfpaaW.PrintMore
set_option linter.unusedVariables false
/-- Three cells written into a box. -/
def put3 (W : World) (rb : Nat) (a b c : Value) : World := ((W.setCell ⟨rb, 0, none⟩ a).setCell ⟨rb, 1, none⟩ b).setCell ⟨rb, 2, none⟩ c
theorem put3_grown (W : World) (rb : Nat) (a b c : Value) : W.grownBy (put3 W rb a b c) (some rb) :=
  ⟨rfl, rfl, rfl, by simp [put3, World.setCell], fun i _ hne => by
    have h : i ≠ rb := fun e => hne (by rw [e])
    exact (Below.heap_setCell _ ⟨rb, 2, none⟩ c i h).trans ((Below.heap_setCell _ ⟨rb, 1, none⟩ b i h).trans (Below.heap_setCell _ ⟨rb, 0, none⟩ a i h))⟩
theorem box_cells {W : World} {b : Nat} {x y z : Value} (h : W.heap[b]? = some (.cells #[x, y, z] 24 (0, 0))) : W.cell? ⟨b, 0, none⟩ = some x ∧ W.cell? ⟨b, 1, none⟩ = some y ∧ W.cell? ⟨b, 2, none⟩ = some z :=
  ⟨(blk_cell h 0).trans rfl, (blk_cell h 1).trans rfl, (blk_cell h 2).trans rfl⟩
theorem wf_small' {x : Int} (h0 : -1 ≤ x) (h1 : x < 9223372036854775808) : wf64 x := by
  simp [wf64, Lit.wf, IntKind.min, IntKind.max, IntKind.signed, IntKind.bits]; omega
end Go.Proofs.Ytmphigeefppfpaa.H
namespace Go.Proofs.Ytmphigeefppfpaa.H
open Go.RowKit Go.Proofs.YtmphigeefppfpaaW.PrintWords Go.Proofs.YtmphigeefppfpaaW.PrintLast Go.Proofs.YtmphigeefppfpaaW.PrintMore
set_option linter.unusedVariables false
theorem rtwo_ev (ea sa : Int) (la : List (List Int)) (eb sb : Int) (lb : List (List Int)) (ha : lens la) (hb : lens lb) : Ev (fun k => Q.virgationref11_two.f k ea sa la eb sb lb) (pairVal ea sa la eb sb lb) := by
  have j : ∀ x12 r, (if x12 = true then 11 else (if ea = eb then 0 else 2)) = r → Ev (fun k => Q.virgationref11_two.j0 k x12 ea sa la eb sb lb) r := by
    rintro x12 r rfl
    refine ev_end fun k => ?_
    simp only [Q.virgationref11_two.j0]
    split
    · rfl
    · split <;> rfl
  unfold Q.virgationref11_two.f
  refine Ev.bind (is_ev ea sa la ha) ?_
  cases h1 : specOk ea sa la with
  | false =>
    simp only [Bool.false_eq_true, if_false]
    exact j _ _ (by simp [pairVal, h1])
  | true =>
    simp only [if_true]
    refine Ev.bind (is_ev eb sb lb hb) ?_
    exact j _ _ (by cases h2 : specOk eb sb lb <;> simp [pairVal, h1, h2])
theorem rtwo_calls (ea sa : Int) (A : Option Addr) (ca : Nat) (la : List (List Int)) (eb sb : Int) (B : Option Addr) (cb : Nat) (lb : List (List Int)) (w : World) (hra : Kd.C (Kd.slice 3 (Kd.int .i64)) w A la.length la) (hca : la.length ≤ ca) (hrb : Kd.C (Kd.slice 3 (Kd.int .i64)) w B lb.length lb) (hcb : lb.length ≤ cb) :
    Calls Try.prog 46 #[.agg #[.int .i64 ea, .int .i64 sa, .slice A la.length ca], .agg #[.int .i64 eb, .int .i64 sb, .slice B lb.length cb]] w fun E w' => E = .returned (.int .i64 (pairVal ea sa la eb sb lb)) ∧ Below w.heap.size w w' := by
  obtain ⟨k, hk⟩ := (rtwo_ev ea sa la eb sb lb (lens_of_C hra) (lens_of_C hrb)).rounds
  exact Q.virgationref11_two.calls k ea sa A ca la eb sb B cb lb _ w hra hca hrb hcb hk
theorem rnext_calls {ev st : Int} {l : List (List Int)} (hs : specOk ev st l = true) {q e : Int} (hq : domN l q) (h0 : 0 ≤ e) (h1 : e < ev) (A : Option Addr) (c : Nat) (w : World) (hr : Kd.C (Kd.slice 3 (Kd.int .i64)) w A l.length l) (hc : l.length ≤ c) :
    Calls Try.prog 47 #[.agg #[.int .i64 ev, .int .i64 st, .slice A l.length c], .int .i64 q, .int .i64 e] w fun E w' => E = .returned (.int .i64 (nextB l q e)) ∧ Below w.heap.size w w' :=
  Q.virgationref11_next.calls ev st A c l q e _ w hr hc (next_val hs hq h0 h1)
theorem info65 : (Try.prog.info? 65).map (fun i => (i.zero, i.size, i.bytes)) = some (some (.agg #[.int .i64 0, .int .i64 0, .slice none 0 0]), 3, 40) := by kernel_rfl
end Go.Proofs.Ytmphigeefppfpaa.H
namespace Go.Proofs.Ytmphigeefppfpaa.H
open Go.RowKit Go.Proofs.YtmphigeefppfpaaW.PrintWords Go.Proofs.YtmphigeefppfpaaW.PrintLast Go.Proofs.YtmphigeefppfpaaW.PrintMore
set_option linter.unusedVariables false
/-- A word, whether there is one, an error. -/
def ApEnd (a : Option (List Int)) (err : Int) (w : World) (E : Ending) (w' : World) : Prop :=
  ∃ (A : Option Addr) (c : Nat), (a.getD []).length ≤ c ∧ E = .returned (.tuple #[.slice A (a.getD []).length c, .bool a.isSome, .int .i64 err]) ∧ Kd.C (Kd.int .i64) w' A (a.getD []).length (a.getD []) ∧ Below w.heap.size w w'
def apVal (ea sa : Int) (la : List (List Int)) (eb sb : Int) (lb : List (List Int)) : Option (List Int) := if pairVal ea sa la eb sb lb = 0 then apAns la lb ea.toNat (sa, sb) (pairs la lb) else none
theorem C_nil (w : World) : Kd.C (Kd.int .i64) w none 0 [] := (Kd.R_reads' (Kd.R_nil (Kd.int .i64) 3 w 0 (fun _ => True))).2.2
def kA : Kd PT := Kd.iso (Kd.pair (Kd.int .i64) (Kd.pair (Kd.int .i64) (Kd.slice 3 (Kd.int .i64)))) (fun t => (t.p.1, t.p.2, t.wd))
theorem M_kA {W : World} {base : Nat} {ok : Nat → Prop} {t : PT} {v : Value} (h : Kd.R (Kd.int .i64) 3 W base ok v t.wd) : kA.M W base ok t [.int .i64 t.p.1, .int .i64 t.p.2, v] :=
  ⟨[.int .i64 t.p.1], [.int .i64 t.p.2, v], rfl, rfl, [.int .i64 t.p.2], [v], rfl, rfl, v, rfl, h⟩
theorem R_new1A (W : World) (s : Int × Int) (base : Nat) (hb : base ≤ W.heap.size) : Kd.R kA 65 (W.alloc (.cells #[.int .i64 s.1, .int .i64 s.2, .slice none 0 0] 65)) base (fun k => k = W.heap.size) (.slice (some ⟨W.heap.size, 0, none⟩) 1 1) [root s] := by
  refine ⟨fun k hk => ?_, [.int .i64 s.1, .int .i64 s.2, .slice none 0 0], ⟨by rfl, .inr ⟨W.heap.size, 1, #[.int .i64 s.1, .int .i64 s.2, .slice none 0 0], rfl, hb, blk_new _ _, by simp, by decide, by simp [kA, Kd.iso, Kd.pair, Kd.slice, Kd.int, Kd.scalar], by simp [kA, Kd.iso, Kd.pair, Kd.slice, Kd.int, Kd.scalar]⟩⟩, ?_⟩
  · have : W.heap.size = k := by simpa [Value.ownBlock] using hk
    omega
  · exact (Reps.none _ _).snoc (M_kA (t := root s) (v := .slice none 0 0) (Kd.R_nil _ _ _ _ _)) rfl
/-- An element of the list: its two states, and its word, a row that is none of the list's own block. -/
theorem kA_at {e base n cap : Nat} {ok : Nat → Prop} {W : World} {ad : Addr} {xs : List PT} (h : kA.R e W base ok (.slice (some ad) n cap) xs) {i : Nat} (hi : i < xs.length) (hn : n = xs.length) :
    W.cell? (ad.add (i * 3)) = some (.int .i64 xs[i].p.1) ∧ W.cell? ⟨(ad.add (i * 3)).block, (ad.add (i * 3)).off + 1, none⟩ = some (.int .i64 xs[i].p.2) ∧
    ∃ A c, W.cell? ⟨(ad.add (i * 3)).block, (ad.add (i * 3)).off + 2, none⟩ = some (.slice A xs[i].wd.length c) ∧ Kd.C (Kd.int .i64) W A xs[i].wd.length xs[i].wd := by
  obtain ⟨c, hc, hM, hcc⟩ := Kd.R_get h (root (0, 0)) (i : Int) (by omega) (by omega)
  rw [Int.toNat_natCast, List.getD_eq_getElem?_getD, List.getElem?_eq_getElem hi, Option.getD_some] at hM
  obtain ⟨c0, c1, rfl, h0, c2, c3, rfl, h1, v, h2, h3⟩ := hM
  have e0 : c0 = [.int .i64 xs[i].p.1] := h0
  have e1 : c2 = [.int .i64 xs[i].p.2] := h1
  subst e0; subst e1; subst h2
  rw [Int.toNat_natCast] at hcc
  obtain ⟨A, cw, rfl⟩ := Kd.R_slice h3
  have hC := (Kd.R_reads' h3).2.2
  have k1 := hcc 1 _ rfl
  have k2 := hcc 2 _ rfl
  obtain ⟨_, inner, ho, _⟩ := h
  rcases ho.2 with ⟨hv, _⟩ | ⟨g, cap, cur, hv, _⟩
  · cases hv
  · injection hv with hg _ _
    injection hg with hg
    subst hg
    refine ⟨hcc 0 _ rfl, ?_, A, cw, ?_, hC⟩
    · rw [add_at] at k1 ⊢
      exact k1
    · rw [add_at] at k2 ⊢
      exact k2
structure RA (w W : World) (va vb : Array Value) (qv : Value) (Sq : Nat → Prop) (l : List PT) : Prop where
  hb : Below w.heap.size w W
  ha : W.heap[w.heap.size]? = some (.cells va 24 (0, 0))
  hbb : W.heap[w.heap.size + 1]? = some (.cells vb 24 (0, 0))
  hQ : kA.R 65 W w.heap.size Sq qv l
section
variable {w W W1 : World} {va vb : Array Value} {qv qv1 : Value} {Sq : Nat → Prop} {l l1 : List PT}
theorem RA.below (h : RA w W va vb qv Sq l) (hb : Below W.heap.size W W1) : RA w W1 va vb qv Sq l := ⟨below_then h.hb h.hb.size hb, blk_below h.ha hb, blk_below h.hbb hb, Kd.R_below h.hQ hb⟩
theorem RA.bound' (h : RA w W va vb qv Sq l) : ∃ Sq1 : Nat → Prop, Aside0 (RA w W va vb qv Sq1 l) ∧ Aside0 (∀ k, Sq1 k → k < W.heap.size) :=
  ⟨_, ⟨⟨h.hb, h.ha, h.hbb, Kd.R_mono (Kd.R_bound h.hQ) (fun k hk => (⟨hk.1, hk.2.2.1⟩ : Sq k ∧ k < W.heap.size))⟩⟩, ⟨fun k hk => hk.2⟩⟩
theorem RA.bound2 (h : RA w W va vb qv Sq l) : ∃ Sq1 : Nat → Prop, Aside0 (RA w W va vb qv Sq1 l) ∧ Aside0 (∀ k, Sq1 k → k < W.heap.size) ∧ Aside0 (∀ k, Sq1 k → Sq k) :=
  ⟨_, ⟨⟨h.hb, h.ha, h.hbb, Kd.R_mono (Kd.R_bound h.hQ) (fun k hk => (⟨hk.1, hk.2.2.1⟩ : Sq k ∧ k < W.heap.size))⟩⟩, ⟨fun k hk => hk.2⟩, ⟨fun k hk => hk.1⟩⟩
/-- A block of another row is written. -/
theorem RA.other {xb : Nat} {cells : Array Value} {T : TypeId} (h : RA w W va vb qv Sq l) (hx : W.heap[xb]? = some (.cells cells T (0, 0))) (hT : T ≠ 24) (hb : w.heap.size ≤ xb) (h1 : ¬ Sq xb) (hg : W.grownBy W1 (some xb)) : RA w W1 va vb qv Sq l :=
  ⟨pw_below_grown h.hb _ h.hb.size hg (fun k hk => by cases hk; exact hb), blk_grown h.ha hg (fun e => by injection e with e; exact blk_ne h.ha hx (Ne.symm hT) e), blk_grown h.hbb hg (fun e => by injection e with e; exact blk_ne h.hbb hx (Ne.symm hT) e),
    Kd.R_step h.hQ (fun k hk hlt => hg.block k hlt (fun e => by injection e with e; exact h1 (e ▸ hk)))⟩
theorem RA.out3 {xb : Nat} {a0 b0 c0 : Value} (h : RA w W va vb qv Sq l) (hx : W.heap[xb]? = some (.cells #[a0, b0, c0] 65 (0, 0))) (hS : ∀ k, Sq k → k < xb) (hb : w.heap.size ≤ xb) (a b c : Value) :
    RA w (((W.setCell ⟨xb, 0, none⟩ a).setCell ⟨xb, 1, none⟩ b).setCell ⟨xb, 2, none⟩ c) va vb qv Sq l ∧ (((W.setCell ⟨xb, 0, none⟩ a).setCell ⟨xb, 1, none⟩ b).setCell ⟨xb, 2, none⟩ c).heap[xb]? = some (.cells #[a, b, c] 65 (0, 0)) :=
  ⟨h.other hx (by decide) hb (fun hk => Nat.lt_irrefl _ (hS _ hk)) (put3_grown W xb a b c), blk_set (blk_set (blk_set hx 0 a) 1 b) 2 c⟩
theorem RA.held {a b c d e f : Value} {ad : Addr} {c9 i : Nat} {x : PT} (h : RA w W #[a, b, c] #[d, e, f] (.slice (some ad) l.length c9) Sq l) (hx : l[i]? = some x) :
    ((W.cell? ⟨w.heap.size, 0, none⟩ = some a ∧ W.cell? ⟨w.heap.size, 1, none⟩ = some b ∧ W.cell? ⟨w.heap.size, 2, none⟩ = some c) ∧ (W.cell? ⟨w.heap.size + 1, 0, none⟩ = some d ∧ W.cell? ⟨w.heap.size + 1, 1, none⟩ = some e ∧ W.cell? ⟨w.heap.size + 1, 2, none⟩ = some f)) ∧
    (W.cell? (ad.add (i * 3)) = some (.int .i64 x.p.1) ∧ W.cell? ⟨(ad.add (i * 3)).block, (ad.add (i * 3)).off + 1, none⟩ = some (.int .i64 x.p.2)) := by
  obtain ⟨hi, rfl⟩ := List.getElem?_eq_some_iff.1 hx
  have := kA_at h.hQ hi rfl
  exact ⟨⟨box_cells h.ha, box_cells h.hbb⟩, this.1, this.2.1⟩
theorem RA.appQ (h : RA w W va vb qv Sq l) {ok : Nat → Prop} (hq : kA.R 65 W1 w.heap.size ok qv1 l1) (hg : W.grownBy W1 qv.ownBlock) : RA w W1 va vb qv1 ok l1 := by
  have hne : ∀ k, qv.ownBlock = some k → ∃ cells, W.heap[k]? = some (.cells cells 65 (0, 0)) := fun k hk => Kd.R_typed h.hQ _ hk
  refine ⟨pw_below_grown h.hb _ h.hb.size hg (Kd.R_base h.hQ), blk_grown h.ha hg (fun e => ?_), blk_grown h.hbb hg (fun e => ?_), hq⟩
  · obtain ⟨cells, hc⟩ := hne _ e.symm
    exact blk_ne h.ha hc (by decide) rfl
  · obtain ⟨cells, hc⟩ := hne _ e.symm
    exact blk_ne h.hbb hc (by decide) rfl
end
/-- The new pair: its box, and its word, apart from the list. -/
structure XW (w W : World) (xb : Nat) (y : Int × Int) (v : Value) (Sq Sw : Nat → Prop) (wd : List Int) : Prop where
  hx : W.heap[xb]? = some (.cells #[.int .i64 y.1, .int .i64 y.2, v] 65 (0, 0))
  hw : Kd.R (Kd.int .i64) 3 W w.heap.size Sw v wd
  hd : Disj Sq Sw
theorem XW.below {w W W1 : World} {xb : Nat} {y : Int × Int} {v : Value} {Sq Sw : Nat → Prop} {wd : List Int} (h : XW w W xb y v Sq Sw wd) (hb : Below W.heap.size W W1) : XW w W1 xb y v Sq Sw wd := ⟨blk_below h.hx hb, Kd.R_below h.hw hb, h.hd⟩
theorem box_row {W : World} {bx : Nat} {e : Int} (h : W.heap[bx]? = some (.cells #[.int .i64 e] 3 (0, 0))) : Kd.C (Kd.int .i64) W (some ⟨bx, 0, none⟩) 1 [e] :=
  ⟨rfl, by omega, fun _ => ⟨_, rfl, fun j p hj => by
    obtain ⟨hj1, rfl⟩ := List.getElem?_eq_some_iff.1 hj
    obtain rfl : j = 0 := by simpa using hj1
    refine ⟨[.int .i64 e], rfl, rfl, fun i u hu => ?_⟩
    obtain ⟨hi1, rfl⟩ := List.getElem?_eq_some_iff.1 hu
    obtain rfl : i = 0 := by simpa using hi1
    exact (blk_cell h 0).trans rfl⟩⟩
end Go.Proofs.Ytmphigeefppfpaa.H
namespace Go.Proofs.Ytmphigeefppfpaa.H
open Go.RowKit Go.Proofs.YtmphigeefppfpaaW.PrintWords Go.Proofs.YtmphigeefppfpaaW.PrintLast Go.Proofs.YtmphigeefppfpaaW.PrintMore
set_option linter.unusedVariables false
/-- k numbers from each end have changed their places. -/
def RevTo (xs cur : List Int) (k : Nat) : Prop := cur.length = xs.length ∧ ∀ p, p < xs.length → cur.getD p 0 = if p < k ∨ xs.length - k ≤ p then xs.getD (xs.length - 1 - p) 0 else xs.getD p 0
theorem RevTo.start (xs : List Int) : RevTo xs xs 0 := ⟨rfl, fun p hp => by rw [if_neg (by omega)]⟩
theorem RevTo.end_ {xs cur : List Int} {k : Nat} (h : RevTo xs cur k) (hk : xs.length ≤ 2 * k + 1) : cur = xs.reverse := by
  refine List.ext_getElem (by rw [h.1, List.length_reverse]) fun p h1 h2 => ?_
  have h3 : p < xs.length := by rw [← h.1]; exact h1
  have h4 := h.2 p h3
  rw [List.getElem_reverse]
  rw [List.getD_eq_getElem?_getD, List.getElem?_eq_getElem h1, Option.getD_some] at h4
  rw [h4]
  split
  · rw [List.getD_eq_getElem?_getD, List.getElem?_eq_getElem (by omega), Option.getD_some]
  · have : p = xs.length - 1 - p := by omega
    rw [List.getD_eq_getElem?_getD, List.getElem?_eq_getElem (by omega), Option.getD_some]
    congr 1
theorem RevTo.step {xs cur : List Int} {k : Nat} (h : RevTo xs cur k) (hk : 2 * k + 1 < xs.length) : RevTo xs ((cur.set k (cur.getD (xs.length - 1 - k) 0)).set (xs.length - 1 - k) (cur.getD k 0)) (k + 1) := by
  refine ⟨by rw [List.length_set, List.length_set, h.1], fun p hp => ?_⟩
  have hk0 := h.2 k (by omega)
  have hk1 := h.2 (xs.length - 1 - k) (by omega)
  have hp0 := h.2 p hp
  rw [if_neg (by omega)] at hk0 hk1
  rw [List.getD_eq_getElem?_getD, List.getElem?_set, List.getElem?_set]
  by_cases e1 : xs.length - 1 - k = p
  · rw [if_pos e1, List.length_set, h.1, if_pos (by omega), Option.getD_some, if_pos (by omega), hk0]
    congr 1; omega
  · rw [if_neg e1]
    by_cases e2 : k = p
    · rw [if_pos e2, h.1, if_pos (by omega), Option.getD_some, if_pos (by omega), hk1]
      congr 1; omega
    · rw [if_neg e2, ← List.getD_eq_getElem?_getD, hp0]
      by_cases e3 : p < k ∨ xs.length - k ≤ p
      · rw [if_pos e3, if_pos (by omega)]
      · rw [if_neg e3, if_neg (by omega)]
theorem grown_trans {W W1 W2 : World} {row : Option Nat} (h : W.grownBy W1 row) (h2 : W1.grownBy W2 row) : W.grownBy W2 row := ⟨h2.os.trans h.os, h2.tape.trans h.tape, h2.output.trans h.output, Nat.le_trans h.size h2.size, fun i hi hne => (h2.block i (Nat.lt_of_lt_of_le hi h.size) hne).trans (h.block i hi hne)⟩
def RevEnd (base : Nat) (S : Nat → Prop) (v : Value) (xs : List Int) (w : World) (E : Ending) (w' : World) : Prop := E = .returned (.tuple #[]) ∧ Kd.R (Kd.int .i64) 3 w' base S v xs.reverse ∧ w.grownBy w' v.ownBlock
set_option maxHeartbeats 2000000 in
theorem reverse_calls (base : Nat) (S : Nat → Prop) (A : Option Addr) (c : Nat) (xs : List Int) (w : World) (hr : Kd.R (Kd.int .i64) 3 w base S (.slice A xs.length c) xs) :
    Calls Try.prog 45 #[.slice A xs.length c] w (RevEnd base S (.slice A xs.length c) xs w) := by
  have HR := Aside0.mk hr
  have hm := (Kd.R_reads' hr).2.2.2.1
  clear hr
  by_cases h0 : xs.length = 0
  · have hx : xs = [] := List.eq_nil_of_length_eq_zero h0
    subst hx
    clear hm h0
    go_enter Try.func45, Try.ntmps45
    go_wp2
    go_loopg [2, 3] 0 (fun gg v2 v3 wi => v2 = .int .i64 0 ∧ v3 = .int .i64 (-1) ∧ w = wi)
    case atStart => exact ⟨rfl, rfl, rfl⟩
    case round =>
      obtain ⟨rfl, rfl, rfl⟩ := hrel
      go_wp2
      go_end0
      exact ⟨rfl, HR.out, World.grownBy.refl _ _⟩
  · obtain ⟨g, hg⟩ : ∃ g, A = some ⟨g, 0, none⟩ := by
      rcases (HR.out).2.choose_spec.1.2 with ⟨hv, hn⟩ | ⟨g, cap, cur, hv, _⟩
      · injection hv with h1 h2 _; omega
      · injection hv with h1 _ _; exact ⟨g, h1⟩
    subst hg
    have hn1 : 1 ≤ xs.length := by omega
    generalize hN : xs.length = N at *
    have HNN := Aside0.mk hN
    clear hN h0
    go_enter Try.func45, Try.ntmps45
    go_wp2
    go_loopg [2, 3] N (fun gg v2 v3 wi => ∃ (k : Nat) (j : Int) (cur : List Int), 2 * k ≤ N ∧ N - 2 * k ≤ gg ∧ v2 = .int .i64 k ∧ v3 = .int .i64 j ∧ -1 ≤ j ∧ j < N ∧ Aside0 (j = (N : Int) - 1 - k) ∧ Aside0 (RevTo xs cur k) ∧ Aside0 (Kd.R (Kd.int .i64) 3 wi base S (.slice (some ⟨g, 0, none⟩) N c) cur) ∧ Aside0 (w.grownBy wi (some g)))
    case atStart => exact ⟨0, (N : Int) - 1, xs, by omega, by omega, rfl, rfl, by omega, by omega, ⟨by omega⟩, ⟨RevTo.start xs⟩, HR, ⟨World.grownBy.refl _ _⟩⟩
    case round =>
      clear HR
      obtain ⟨k, j, cur, hk, hgg, rfl, rfl, hj0, hj1, HJ, HV, HR, HG⟩ := hrel
      by_cases hlt : (k : Int) < j
      · obtain ⟨m, rfl⟩ : ∃ m : Nat, j = (m : Int) := ⟨j.toNat, by omega⟩
        have hkN : (k : Int) < (N : Int) := by omega
        obtain ⟨hc1, hf1⟩ := Kd.R_celln 0 HR.out (k : Int) (by omega) (by omega)
        obtain ⟨hc2, hf2⟩ := Kd.R_celln 0 HR.out (m : Int) (by omega) (by omega)
        rw [Int.toNat_natCast] at hc1 hf1 hc2 hf2
        have hne : k ≠ m := by omega
        go_wp2
        go_region
        go_wp2
        go_roundg (N - 2 * (k + 1))
        case measure => have := (HJ.out); omega
        case rel =>
          have hJ := HJ.out
          have hN := HNN.out
          have P1 := Kd.R_putg HR.out (k : Int) (rdOf 0 cur (m : Int))
          have P2 := Kd.R_putg P1.1 (m : Int) (rdOf 0 cur (k : Int))
          rw [Int.toNat_natCast] at P1
          rw [Int.toNat_natCast, Int.toNat_natCast] at P2
          have hs := (HV.out).step (by omega)
          rw [show xs.length - 1 - k = m from by omega] at hs
          refine ⟨k + 1, (m : Int) - 1, _, by omega, by omega, by go_num, rfl, by omega, by omega, ⟨by omega⟩, ⟨hs⟩, ⟨Kd.R_drew P2.1⟩, ⟨?_⟩⟩
          have hd := grown_of_below (below_drew (Below.refl _ (((wr.setCell ⟨g, k, none⟩ (.int .i64 (rdOf 0 cur (m : Int)))).setCell ⟨g, m, none⟩ (.int .i64 (rdOf 0 cur (k : Int))))))) (some g)
          exact grown_trans (grown_trans HG.out P1.2) (grown_trans P2.2 hd)
      · go_wp2
        go_end0
        refine ⟨rfl, ?_, HG.out⟩
        have hN := HNN.out
        have hJ := HJ.out
        have := (HV.out).end_ (by omega)
        rw [← this]
        exact HR.out
end Go.Proofs.Ytmphigeefppfpaa.H
namespace Go.Proofs.Ytmphigeefppfpaa.H
open Go.RowKit Go.Proofs.YtmphigeefppfpaaW.PrintWords Go.Proofs.YtmphigeefppfpaaW.PrintLast Go.Proofs.YtmphigeefppfpaaW.PrintMore
set_option linter.unusedVariables false
def encY (v : (Int × Int) × Int) : Value := .agg #[.int .i64 v.1.1, .int .i64 v.1.2, .int .i64 v.2]
theorem zero58 (w : World) : (zeroValue 58).run Try.prog w = .ok (.agg #[.int .i64 0, .int .i64 0, .int .i64 0]) w := by kernel_rfl
theorem part2 (a b : Int) (w : World) : (part 3 #[.int .i64 a, .int .i64 b] 0).run Try.prog w = .ok (.int .i64 a) w ∧ (part 3 #[.int .i64 a, .int .i64 b] 1).run Try.prog w = .ok (.int .i64 b) w := ⟨by kernel_rfl, by kernel_rfl⟩
theorem eq56 (a b c e : Int) (w : World) : (Op.equalIn 10000 56 (.agg #[.int .i64 a, .int .i64 b]) (.agg #[.int .i64 c, .int .i64 e])).run Try.prog w = .ok (a == c && b == e) w := by
  obtain ⟨i0, hi0, _, hsz, _⟩ := info_parts info3
  rw [show (10000 : Nat) = 9998 + 1 + 1 from rfl, run_equalIn_array w (9998 + 1) _ _ Try.underlying56 hi0]
  have hc : Try.prog.cellsOf 3 = 1 := by kernel_rfl
  have p1 := part2 a b w
  have p2 := part2 c e w
  have k1 : (Op.equalIn 9999 3 (.int .i64 a) (.int .i64 c)).run Try.prog w = .ok (a == c) w := run_equalIn_int (P := Try.prog) w 9998 3 .i64 .i64 a c Try.underlying3
  have k2 : (Op.equalIn 9999 3 (.int .i64 b) (.int .i64 e)).run Try.prog w = .ok (b == e) w := run_equalIn_int (P := Try.prog) w 9998 3 .i64 .i64 b e Try.underlying3
  rw [show List.range 2 = [0, 1] from rfl, show (9998 + 1 : Nat) = 9999 from rfl, hc]
  cases h1 : (a == c)
  · rw [h1] at k1
    simp [Op.eqItems, Sem.run_bind, p1.1, p2.1, k1]
  · rw [h1] at k1
    cases h2 : (b == e)
    · rw [h2] at k2
      simp [Op.eqItems, Sem.run_bind, p1.1, p1.2, p2.1, p2.2, k1, k2]
    · rw [h2] at k2
      simp [Op.eqItems, Sem.run_bind, p1.1, p1.2, p2.1, p2.2, k1, k2]
theorem field58 (a b c : Int) (w : World) : (Instr.field 58 (.agg #[.int .i64 a, .int .i64 b, .int .i64 c]) 1).run Try.prog w = .ok (.int .i64 c) w ∧ (Instr.field 58 (.agg #[.int .i64 a, .int .i64 b, .int .i64 c]) 0).run Try.prog w = .ok (.agg #[.int .i64 a, .int .i64 b]) w := ⟨by kernel_rfl, by kernel_rfl⟩
/-- The first of the queue. -/
theorem kP_head {W : World} {base : Nat} {ok : Nat → Prop} {v : Value} {x : Int × Int} {xs : List (Int × Int)} (h : kP.Q 56 W base ok v (x :: xs)) : ∃ g o c, v = .slice (some ⟨g, o, none⟩) (xs.length + 1) c ∧ W.cell? ⟨g, o, none⟩ = some (.int .i64 x.1) ∧ W.cell? ⟨g, o + 1, none⟩ = some (.int .i64 x.2) := by
  obtain ⟨g, o, c, rfl, _⟩ := Kd.Q_form h (by simp)
  obtain ⟨cs, hc, hM, hcc, _⟩ := Kd.Q_elem h (0, 0) 0 (by omega) (by simp)
  simp only [Int.toNat_zero, List.getD_cons_zero, Nat.zero_mul, Nat.add_zero] at hM hcc
  obtain ⟨c0, c1, rfl, h0, h1⟩ := hM
  have e0 : c0 = [.int .i64 x.1] := h0
  have e1 : c1 = [.int .i64 x.2] := h1
  subst e0; subst e1
  exact ⟨g, o, c, rfl, hcc 0 _ rfl, hcc 1 _ rfl⟩
/-- The queue without its first. -/
theorem kP_tail {W : World} {base : Nat} {ok : Nat → Prop} {A : Option Addr} {n c : Nat} {x : Int × Int} {xs : List (Int × Int)} (h : kP.Q 56 W base ok (.slice A n c) (x :: xs)) :
    ∃ A1 c1, (∀ W' : World, (Instr.slice 60 (.slice A n c) (some (.int .i64 1)) none none).run Try.prog W' = .ok (.slice A1 xs.length c1) W') ∧ kP.Q 56 W base ok (.slice A1 xs.length c1) xs := by
  obtain ⟨i0, hi0, _, hsz, _⟩ := info_parts info56
  have hn := (Kd.Q_reads' h).1
  have hcut := cut_from (P := Try.prog) 60 56 .i64 Try.underlying60 hi0 2 hsz A n c 1 (by omega) (by rw [hn, List.length_cons]; omega)
  have hr := Kd.Q_drop (k := 1) h (by simp)
  have hl : n - 1 = xs.length := by rw [hn]; simp
  refine ⟨if c = 1 then A else A.map (·.add (1 * 2)), c - 1, fun W' => ?_, ?_⟩
  · rw [hcut W']
    simp only [show ((1 : Int).toNat) = 1 from rfl, hl]
  · rw [← hl]
    exact hr
structure SA (w W : World) (va vb : Array Value) (MB : Nat) (bs : List (Nat × (Int × Int))) (qv : Value) (Sq : Nat → Prop) (q : List (Int × Int)) (es : List ((Int × Int) × ((Int × Int) × Int))) : Prop where
  hb : Below w.heap.size w W
  ha : W.heap[w.heap.size]? = some (.cells va 24 (0, 0))
  hbb : W.heap[w.heap.size + 1]? = some (.cells vb 24 (0, 0))
  hM : MapIs W MB encP encY domP es
  hMB : w.heap.size ≤ MB
  hQ : kP.Q 56 W w.heap.size Sq qv q
  hbs : ∀ p ∈ bs, W.heap[p.1]? = some (.cells #[.int .i64 p.2.1, .int .i64 p.2.2] 56 (0, 0)) ∧ ¬ Sq p.1 ∧ w.heap.size ≤ p.1
section
variable {w W W1 : World} {va vb : Array Value} {MB : Nat} {bs bs1 : List (Nat × (Int × Int))} {qv qv1 : Value} {Sq Sq1 : Nat → Prop} {q q1 : List (Int × Int)} {es es1 : List ((Int × Int) × ((Int × Int) × Int))}
theorem SA.below (h : SA w W va vb MB bs qv Sq q es) (hb : Below W.heap.size W W1) : SA w W1 va vb MB bs qv Sq q es :=
  ⟨below_then h.hb h.hb.size hb, blk_below h.ha hb, blk_below h.hbb hb, h.hM.below hb, h.hMB, Kd.Q_below h.hQ hb, fun p hp => ⟨blk_below (h.hbs p hp).1 hb, (h.hbs p hp).2⟩⟩
theorem SA.bound2 (h : SA w W va vb MB bs qv Sq q es) : ∃ Sq1 : Nat → Prop, Aside0 (SA w W va vb MB bs qv Sq1 q es) ∧ Aside0 (∀ k, Sq1 k → k < W.heap.size) ∧ Aside0 (∀ k, Sq1 k → Sq k) :=
  ⟨_, ⟨⟨h.hb, h.ha, h.hbb, h.hM, h.hMB, Kd.Q_mono (Kd.Q_bound h.hQ) (fun k hk => (⟨hk.1, hk.2.2.1⟩ : Sq k ∧ k < W.heap.size)), fun p hp => ⟨(h.hbs p hp).1, fun hk => (h.hbs p hp).2.1 hk.1, (h.hbs p hp).2.2⟩⟩⟩, ⟨fun k hk => hk.2⟩, ⟨fun k hk => hk.1⟩⟩
theorem SA.cons (h : SA w W va vb MB bs qv Sq q es) {b : Nat} {x : Int × Int} (hx : W.heap[b]? = some (.cells #[.int .i64 x.1, .int .i64 x.2] 56 (0, 0))) (hS : ¬ Sq b) (hb : w.heap.size ≤ b) : SA w W va vb MB ((b, x) :: bs) qv Sq q es :=
  ⟨h.hb, h.ha, h.hbb, h.hM, h.hMB, h.hQ, fun p hp => by
    rcases List.mem_cons.1 hp with rfl | hp
    · exact ⟨hx, hS, hb⟩
    · exact h.hbs p hp⟩
theorem SA.less (h : SA w W va vb MB bs qv Sq q es) (hs : ∀ p ∈ bs1, p ∈ bs) : SA w W va vb MB bs1 qv Sq q es := ⟨h.hb, h.ha, h.hbb, h.hM, h.hMB, h.hQ, fun p hp => h.hbs p (hs p hp)⟩
/-- Another block is written. -/
theorem SA.other {xb : Nat} {cells : Array Value} {T : TypeId} (h : SA w W va vb MB bs qv Sq q es) (hx : W.heap[xb]? = some (.cells cells T (0, 0))) (hT : T ≠ 24) (hb : w.heap.size ≤ xb) (h1 : ¬ Sq xb) (h2 : ∀ p ∈ bs, p.1 ≠ xb) (hg : W.grownBy W1 (some xb)) : SA w W1 va vb MB bs qv Sq q es :=
  ⟨pw_below_grown h.hb _ h.hb.size hg (fun k hk => by cases hk; exact hb), blk_grown h.ha hg (fun e => by injection e with e; exact blk_ne h.ha hx (Ne.symm hT) e), blk_grown h.hbb hg (fun e => by injection e with e; exact blk_ne h.hbb hx (Ne.symm hT) e),
    h.hM.grown hg (fun e => by injection e with e; exact h.hM.ne_row hx e.symm), h.hMB, Kd.Q_grown h.hQ hg (fun k hk e => by injection e with e; exact h1 (e ▸ hk)), fun p hp => ⟨blk_grown (h.hbs p hp).1 hg (fun e => by injection e with e; exact h2 p hp e), (h.hbs p hp).2⟩⟩
theorem grown2 (W : World) (b : Nat) (u v : Value) : W.grownBy ((W.setCell ⟨b, 0, none⟩ u).setCell ⟨b, 1, none⟩ v) (some b) := grown_trans (grown_setCell W ⟨b, 0, none⟩ u) (grown_setCell _ ⟨b, 1, none⟩ v)
theorem SA.put2 {yb : Nat} {a0 b0 : Value} (h : SA w W va vb MB bs qv Sq q es) (hx : W.heap[yb]? = some (.cells #[a0, b0] 56 (0, 0))) (hb : w.heap.size ≤ yb) (h1 : ¬ Sq yb) (h2 : ∀ p ∈ bs, p.1 ≠ yb) (y : Int × Int) :
    SA w ((W.setCell ⟨yb, 0, none⟩ (.int .i64 y.1)).setCell ⟨yb, 1, none⟩ (.int .i64 y.2)) va vb MB ((yb, y) :: bs) qv Sq q es :=
  (h.other hx (by decide) hb h1 h2 (grown2 W yb _ _)).cons (blk_set (blk_set hx 0 _) 1 _) h1 hb
theorem SA.cell (h : SA w W va vb MB bs qv Sq q es) {b : Nat} {x : Int × Int} (hp : (b, x) ∈ bs) : (W.cell? ⟨b, 0, none⟩ = some (.int .i64 x.1) ∧ W.cell? ⟨b, 1, none⟩ = some (.int .i64 x.2)) ∧ W.frozen? ⟨b, 0, none⟩ = false ∧ W.frozen? ⟨b, 1, none⟩ = false :=
  ⟨⟨(blk_cell (h.hbs _ hp).1 0).trans rfl, (blk_cell (h.hbs _ hp).1 1).trans rfl⟩, blk_frozen (h.hbs _ hp).1 0, blk_frozen (h.hbs _ hp).1 1⟩
theorem SA.map (h : SA w W va vb MB bs qv Sq q es) (hm : MapIs W1 MB encP encY domP es1) (hg : W.grownBy W1 (some MB)) : SA w W1 va vb MB bs qv Sq q es1 := by
  have hne : ∀ {b : Nat} {cs : Array Value} {T : TypeId}, W.heap[b]? = some (.cells cs T (0, 0)) → some b ≠ some MB := fun hb e => by injection e with e; exact h.hM.ne_row hb e
  exact ⟨pw_below_grown h.hb _ h.hb.size hg (fun k hk => by cases hk; exact h.hMB), blk_grown h.ha hg (hne h.ha), blk_grown h.hbb hg (hne h.hbb), hm, h.hMB,
    Kd.Q_mono (Kd.Q_grown (Kd.Q_bound h.hQ) hg (fun k hk => by obtain ⟨_, _, _, _, _, cells, hc⟩ := hk; exact hne hc)) (fun k hk => hk.1), fun p hp => ⟨blk_grown (h.hbs p hp).1 hg (hne (h.hbs p hp).1), (h.hbs p hp).2⟩⟩
theorem SA.tail (h : SA w W va vb MB bs qv Sq q es) (hq : kP.Q 56 W w.heap.size Sq qv1 q1) : SA w W va vb MB bs qv1 Sq q1 es := ⟨h.hb, h.ha, h.hbb, h.hM, h.hMB, hq, h.hbs⟩
theorem SA.appQ (h : SA w W va vb MB bs qv Sq q es) (hq : kP.Q 56 W1 w.heap.size (fun k => Sq k ∨ W.heap.size ≤ k) qv1 q1) (hg : W.grownBy W1 qv.ownBlock) : SA w W1 va vb MB bs qv1 (fun k => Sq k ∨ W.heap.size ≤ k) q1 es := by
  have hty : ∀ k, qv.ownBlock = some k → ∃ cells, W.heap[k]? = some (.cells cells 56 (0, 0)) := Kd.Q_typed h.hQ
  refine ⟨pw_below_grown h.hb _ h.hb.size hg (Kd.Q_base h.hQ), blk_grown h.ha hg (fun e => ?_), blk_grown h.hbb hg (fun e => ?_), h.hM.grown hg (fun e => ?_), h.hMB, hq, fun p hp => ⟨blk_grown (h.hbs p hp).1 hg (fun e => (h.hbs p hp).2.1 (h.hQ.1 _ e.symm)), fun hk => ?_, (h.hbs p hp).2.2⟩⟩
  · obtain ⟨cells, hc⟩ := hty _ e.symm
    exact blk_ne h.ha hc (by decide) rfl
  · obtain ⟨cells, hc⟩ := hty _ e.symm
    exact blk_ne h.hbb hc (by decide) rfl
  · obtain ⟨cells, hc⟩ := hty _ e.symm
    exact h.hM.ne_row hc rfl
  · rcases hk with hk | hk
    · exact (h.hbs p hp).2.1 hk
    · have := (Array.getElem?_eq_some_iff.1 (h.hbs p hp).1).1
      omega
/-- What region 13 reads. -/
theorem SA.held {a b c d e f : Value} {xb : Nat} {x : Int × Int} (h : SA w W #[a, b, c] #[d, e, f] MB bs qv Sq q es) (hp : (xb, x) ∈ bs) :
    ((W.cell? ⟨w.heap.size, 0, none⟩ = some a ∧ W.cell? ⟨w.heap.size, 1, none⟩ = some b ∧ W.cell? ⟨w.heap.size, 2, none⟩ = some c) ∧ (W.cell? ⟨w.heap.size + 1, 0, none⟩ = some d ∧ W.cell? ⟨w.heap.size + 1, 1, none⟩ = some e ∧ W.cell? ⟨w.heap.size + 1, 2, none⟩ = some f)) ∧
    (W.cell? ⟨xb, 0, none⟩ = some (.int .i64 x.1) ∧ W.cell? ⟨xb, 1, none⟩ = some (.int .i64 x.2)) :=
  ⟨⟨box_cells h.ha, box_cells h.hbb⟩, (h.cell hp).1⟩
/-- A row of numbers of the call's own grows. -/
theorem SA.row {S : Nat → Prop} {v : Value} {xs : List Int} (h : SA w W va vb MB bs qv Sq q es) (hr : Kd.R (Kd.int .i64) 3 W w.heap.size S v xs) (hg : W.grownBy W1 v.ownBlock) : SA w W1 va vb MB bs qv Sq q es := by
  have hty : ∀ k, v.ownBlock = some k → ∃ cells, W.heap[k]? = some (.cells cells 3 (0, 0)) := fun k hk => Kd.R_typed hr k hk
  have hne : ∀ {b : Nat} {cs : Array Value} {T : TypeId}, W.heap[b]? = some (.cells cs T (0, 0)) → T ≠ 3 → some b ≠ v.ownBlock := fun hb hT e => by
    obtain ⟨cells, hc⟩ := hty _ e.symm
    exact blk_ne hb hc hT rfl
  refine ⟨pw_below_grown h.hb _ h.hb.size hg (Kd.R_base hr), blk_grown h.ha hg (hne h.ha (by decide)), blk_grown h.hbb hg (hne h.hbb (by decide)), h.hM.grown hg (fun e => ?_), h.hMB, ?_, fun p hp => ⟨blk_grown (h.hbs p hp).1 hg (hne (h.hbs p hp).1 (by decide)), (h.hbs p hp).2⟩⟩
  · obtain ⟨cells, hc⟩ := hty _ e.symm
    exact h.hM.ne_row hc rfl
  · exact Kd.Q_mono (Kd.Q_grown (Kd.Q_bound h.hQ) hg (fun k hk => by
      obtain ⟨_, _, _, t, ht, cells, hc⟩ := hk
      refine hne hc ?_
      have : t = 56 := by simpa [kP, Kd.pair, Kd.int, Kd.scalar] using ht
      rw [this]; decide)) (fun k hk => hk.1)
end
end Go.Proofs.Ytmphigeefppfpaa.H
namespace Go.Proofs.Ytmphigeefppfpaa.H
open Go.RowKit Go.Proofs.YtmphigeefppfpaaW.PrintWords Go.Proofs.YtmphigeefppfpaaW.PrintLast Go.Proofs.YtmphigeefppfpaaW.PrintMore
set_option linter.unusedVariables false
theorem blk_below' {w W : World} {g : Nat} {o : Obj} (h : w.heap[g]? = some o) (hb : Below w.heap.size w W) : W.heap[g]? = some o := blk_below h hb
theorem below_alloc6 {w W : World} (h : Below w.heap.size w W) (hs : w.heap.size ≤ W.heap.size) (o : Obj) : Below w.heap.size w (W.alloc o) := below_alloc h o
theorem spec_domB {n : Nat} {sa sb : Int} {la lb : List (List Int)} (ha : specOk n sa la = true) (hb : specOk n sb lb = true) : domB la lb (sa, sb) := ⟨(spec_table ha).2.1, (spec_table hb).2.1⟩
set_option maxHeartbeats 8000000 in
set_option maxRecDepth 100000 in
theorem rapart_calls (ea sa : Int) (A : Option Addr) (ca : Nat) (la : List (List Int)) (eb sb : Int) (B : Option Addr) (cb : Nat) (lb : List (List Int)) (w : World)
    (hra : Kd.C (Kd.slice 3 (Kd.int .i64)) w A la.length la) (hca : la.length ≤ ca) (hrb : Kd.C (Kd.slice 3 (Kd.int .i64)) w B lb.length lb) (hcb : lb.length ≤ cb) :
    Calls Try.prog 24 #[.agg #[.int .i64 ea, .int .i64 sa, .slice A la.length ca], .agg #[.int .i64 eb, .int .i64 sb, .slice B lb.length cb]] w (ApEnd (apVal ea sa la eb sb lb) (pairVal ea sa la eb sb lb) w) := by
  have H1 := Aside0.mk fun W (hW : Below w.heap.size w W) => rtwo_calls ea sa A ca la eb sb B cb lb W (Kd.C_below hra hW) hca (Kd.C_below hrb hW) hcb
  have HA := Aside0.mk hra
  have HB := Aside0.mk hrb
  clear hra hrb
  by_cases hp : pairVal ea sa la eb sb lb = 0
  · obtain ⟨hsa, hsb, rfl⟩ := pairVal_zero hp
    have HV := Aside0.mk (show apVal ea sa la ea sb lb = apAns la lb ea.toNat (sa, sb) (pairs la lb) from if_pos hp)
    rw [hp] at H1 ⊢
    obtain ⟨_, _, he0, he1, _, hla⟩ := spec_table hsa
    obtain ⟨_, _, _, _, _, hlb⟩ := spec_table hsb
    obtain ⟨n, rfl⟩ : ∃ n : Nat, ea = (n : Int) := ⟨ea.toNat, by omega⟩
    rw [Int.toNat_natCast] at HV
    have hn : n ≤ 16 := by omega
    have hple := pairs_le hsa hsb
    have HLE := Aside0.mk (apTo_le hsa hsb (spec_domB hsa hsb))
    have HDM := Aside0.mk (apTo_dom hsa hsb (spec_domB hsa hsb))
    have H2 := Aside0.mk fun W (hW : Below w.heap.size w W) (q e : Int) (hq : domN la q) (h0 : 0 ≤ e) (h1 : e < (n : Int)) => rnext_calls hsa hq h0 h1 A ca W (Kd.C_below HA.out hW) hca
    have H3 := Aside0.mk fun W (hW : Below w.heap.size w W) (q e : Int) (hq : domN lb q) (h0 : 0 ≤ e) (h1 : e < (n : Int)) => rnext_calls hsb hq h0 h1 B cb W (Kd.C_below HB.out hW) hcb
    generalize hN : pairs la lb = N at *
    generalize hAV : apVal n sa la n sb lb = av at *
    clear hp hsa hsb hla hlb hN he0 he1 hAV
    go_enter Try.func24, Try.ntmps24
    go_upto_region 1 with (fail)
    have HS := two3_begin w #[.int .i64 n, .int .i64 sa, .slice A la.length ca] #[.int .i64 n, .int .i64 sb, .slice B lb.length cb]
    generalize ((w.alloc (.cells #[.int .i64 n, .int .i64 sa, .slice A la.length ca] 24)).alloc (.cells #[.int .i64 n, .int .i64 sb, .slice B lb.length cb] 24)) = w0 at *
    obtain ⟨⟨hc0, hc1, hc2⟩, hd0, hd1, hd2⟩ := two3_held HS
    go_wp2_with fail
    refine (H1.out _ (HS.1).out).mono ?_
    rintro E w1 ⟨rfl, hb⟩
    have HS1 := two3_keep hb HS
    clear hb HS hc0 hc1 hc2 hd0 hd1 hd2 H1
    obtain ⟨⟨hc0, hc1, hc2⟩, hd0, hd1, hd2⟩ := two3_held HS1
    go_upto_region 5 with (fail)
    have HRA := Aside0.mk (RA.mk (w := w) (W := w1.alloc (.cells #[.int .i64 sa, .int .i64 sb, .slice none 0 0] 65)) (va := #[.int .i64 n, .int .i64 sa, .slice A la.length ca]) (vb := #[.int .i64 n, .int .i64 sb, .slice B lb.length cb])
      (below_alloc (HS1.1).out _) (blk_alloc (HS1.2.1).out _) (blk_alloc (HS1.2.2).out _) (R_new1A w1 (sa, sb) w.heap.size ((HS1.1).out).size))
    clear HS1 hc0 hc1 hc2 hd0 hd1 hd2
    generalize (w1.alloc (.cells #[.int .i64 sa, .int .i64 sb, .slice none 0 0] 65)) = w3 at *
    generalize w1.heap.size = qb at *
    go_wp2
    go_loopg [8, 9] N (fun gg v8 v9 wi => ∃ (i : Nat) (Sq : Nat → Prop), i ≤ N ∧ N - i ≤ gg ∧ v9 = .int .i64 i ∧ Aside0 (apAns la lb n (sa, sb) i = none) ∧
      Aside0 (RA w wi #[.int .i64 n, .int .i64 sa, .slice A la.length ca] #[.int .i64 n, .int .i64 sb, .slice B lb.length cb] v8 Sq (apTo la lb n (sa, sb) i)))
    case atStart => exact ⟨0, _, by omega, by omega, rfl, ⟨rfl⟩, HRA⟩
    case round =>
      clear HRA
      obtain ⟨i, Sq, him, hgg, rfl, HNO, HRA⟩ := hrel
      obtain ⟨A8, c8, rfl⟩ := Kd.R_slice (HRA.out).hQ
      have hsz := HLE.out i
      by_cases hlt : i < (apTo la lb n (sa, sb) i).length
      · have hltz : (i : Int) < ((apTo la lb n (sa, sb) i).length : Int) := by omega
        have HXI := Aside0.mk (List.getElem?_eq_getElem hlt)
        have HST := Aside0.mk (apTo_step HXI.out)
        have HFD := Aside0.mk fun (wd : List Int) (h : rowAns la lb (apTo la lb n (sa, sb) i)[i] n = some wd) => apAns_found HNO.out HXI.out h
        have HNX := Aside0.mk fun (h : rowAns la lb (apTo la lb n (sa, sb) i)[i] n = none) => apAns_next HNO.out HXI.out h
        have HXD := Aside0.mk (HDM.out i _ (List.getElem_mem hlt)).q
        have HQM := Aside0.mk (HLE.out (i + 1))
        have HXW := Aside0.mk (apTo_wd i _ (List.getElem_mem hlt))
        rw [HST.out] at HQM
        have him2 : i + 1 ≤ N := by omega
        generalize (apTo la lb n (sa, sb) i)[i] = x at *
        generalize apTo la lb n (sa, sb) i = l at *
        obtain ⟨hc0, hc1, hc2⟩ := box_cells (HRA.out).ha
        go_wp2
        clear hc0 hc1 hc2
        go_loopg [8, 35] n (fun gk v8 v35 wi => ∃ (e : Nat) (Sq : Nat → Prop), e ≤ n ∧ n - e ≤ gk ∧ v35 = .int .i64 e ∧ Aside0 (rowAns la lb x e = none) ∧
          Aside0 (RA w wi #[.int .i64 n, .int .i64 sa, .slice A la.length ca] #[.int .i64 n, .int .i64 sb, .slice B lb.length cb] v8 Sq (apRow la lb x l e)))
        case atStart => exact ⟨0, _, by omega, by omega, rfl, ⟨rfl⟩, HRA⟩
        case round =>
          clear HRA Sq
          obtain ⟨e, Sq, hen, hgk, rfl, HRN, HRA⟩ := hrel
          by_cases hle : e < n
          · have hlez : (e : Int) < (n : Int) := by omega
            have HRS := Aside0.mk (show apRow la lb x l (e + 1) = if oneB (stp la lb x.p e) || seenB (stp la lb x.p e) (apRow la lb x l e) then apRow la lb x l e else apRow la lb x l e ++ [⟨stp la lb x.p e, x.wd ++ [(e : Int)], x.p, e⟩] from rfl)
            have hql := Nat.le_trans (apRow_mono (la := la) (lb := lb) (x := x) (l := l) (e := e) (e' := n) (by omega)) HQM.out
            have HXE := Aside0.mk (show (apRow la lb x l e)[i]? = some x from by
              obtain ⟨r, hr⟩ := apRow_pre (la := la) (lb := lb) (x := x) (l := l) (e := e)
              rw [hr, List.getElem?_append_left hlt]; exact HXI.out)
            have hix : i < (apRow la lb x l e).length := (List.getElem?_eq_some_iff.1 HXE.out).1
            have HF1 := Aside0.mk fun h => rowAns_found HRN.out (h : oneB (stp la lb x.p e) = true) (n - (e + 1))
            rw [show e + 1 + (n - (e + 1)) = n from by omega] at HF1
            have HN1 := Aside0.mk fun h => rowAns_next HRN.out (h : oneB (stp la lb x.p e) = false)
            generalize apRow la lb x l e = qe at *
            obtain ⟨A8, c8, rfl⟩ := Kd.R_slice (HRA.out).hQ
            obtain ⟨ad, rfl⟩ : ∃ ad, A8 = some ad := by
              obtain ⟨ad, e0, _⟩ := (Kd.R_reads' (HRA.out).hQ).2.2.2.2 (by omega)
              exact ⟨ad, e0⟩
            have H2c := Aside0.mk fun W (hW : Below w.heap.size w W) => H2.out W hW x.p.1 e (HXD.out).1 (by omega) (by omega)
            have H3c := Aside0.mk fun W (hW : Below w.heap.size w W) => H3.out W hW x.p.2 e (HXD.out).2 (by omega) (by omega)
            unfold stp at HRS HF1 HN1
            generalize nextB la x.p.1 e = y1 at *
            generalize nextB lb x.p.2 e = y2 at *
            go_upto_region 11 with (fail)
            go_cut [11] from 38 to 54 (fun s11 wx => ∃ (xb : Nat) (Sq : Nat → Prop), s11 = .pointer (some ⟨xb, 0, none⟩) ∧ Aside0 (wx.heap[xb]? = some (.cells #[.int .i64 y1, .int .i64 y2, .slice none 0 0] 65 (0, 0))) ∧ Aside0 (¬ Sq xb ∧ w.heap.size ≤ xb) ∧
              Aside0 (RA w wx #[.int .i64 n, .int .i64 sa, .slice A la.length ca] #[.int .i64 n, .int .i64 sb, .slice B lb.length cb] (.slice (some ad) qe.length c8) Sq qe))
            case first =>
              obtain ⟨Sq1, HB0, HSS⟩ := (HRA.out).bound'
              have HBS := Aside0.mk ((HB0.out).hb).size
              clear HRA
              generalize hw0 : wr = w0 at *
              have HP0 := (HB0.out).below (W1 := w0.drew) (below_drew (Below.refl _ _))
              go_region_held3 (fun w' => ((w'.cell? ⟨w.heap.size, 0, none⟩ = some (.int .i64 n) ∧ w'.cell? ⟨w.heap.size, 1, none⟩ = some (.int .i64 sa) ∧ w'.cell? ⟨w.heap.size, 2, none⟩ = some (.slice A la.length ca)) ∧ (w'.cell? ⟨w.heap.size + 1, 0, none⟩ = some (.int .i64 n) ∧ w'.cell? ⟨w.heap.size + 1, 1, none⟩ = some (.int .i64 sb) ∧ w'.cell? ⟨w.heap.size + 1, 2, none⟩ = some (.slice B lb.length cb))) ∧
                  (w'.cell? (ad.add (i * 3)) = some (.int .i64 x.p.1) ∧ w'.cell? ⟨(ad.add (i * 3)).block, (ad.add (i * 3)).off + 1, none⟩ = some (.int .i64 x.p.2)))
                (first | exact HP0.held HXE.out | exact HP1.held HXE.out | exact HP2.held HXE.out | exact RA.held (RA.out3 HP2 HN2 HT HU _ _ _).1 HXE.out | exact RA.held (RA.below HB0.out (below_drew (below_alloc (Below.refl w0.heap.size w0) (.cells #[.int .i64 0, .int .i64 0, .slice none 0 0] 65)))) HXE.out | exact RA.held (RA.below HP1 (below_alloc (Below.refl _ _) _)) HXE.out | exact RA.held (RA.below HP2 (below_alloc (Below.refl _ _) _)) HXE.out | fail)
                (first
                  | (go_at_call 47; (first | (with_reducible refine (H2c.out _ HP0.hb).mono ?_) | (have HN : ((w0.alloc (.cells #[.int .i64 0, .int .i64 0, .slice none 0 0] 65)).drew).heap[w0.heap.size]? = some (.cells #[.int .i64 0, .int .i64 0, .slice none 0 0] 65 (0, 0)) := blk_drew (blk_new w0 _); have HT := HSS.out; have HU := HBS.out; have HP0 := (HB0.out).below (below_drew (below_alloc (Below.refl w0.heap.size w0) (.cells #[.int .i64 0, .int .i64 0, .slice none 0 0] 65))); with_reducible refine (H2c.out _ HP0.hb).mono ?_)); rintro E w4 ⟨rfl, hb⟩; have HV : w0.heap.size ≤ w4.heap.size := (Nat.le_trans (by simp) hb.size); have HP1 := HP0.below hb; (try have HN1 := blk_below HN hb); clear hb; (try clear HN); clear HP0)
                  | (go_at_call 47; (first | (with_reducible refine (H3c.out _ HP1.hb).mono ?_) | (have HN1 : (w4.alloc (.cells #[.int .i64 0, .int .i64 0, .slice none 0 0] 65)).heap[w4.heap.size]? = some (.cells #[.int .i64 0, .int .i64 0, .slice none 0 0] 65 (0, 0)) := blk_new w4 _; have HT := fun k hk => Nat.lt_of_lt_of_le (HSS.out k hk) HV; have HU := Nat.le_trans HBS.out HV; have HP1 := HP1.below (below_alloc (Below.refl _ _) (.cells #[.int .i64 0, .int .i64 0, .slice none 0 0] 65)); with_reducible refine (H3c.out _ HP1.hb).mono ?_)); rintro E w5 ⟨rfl, hb⟩; have HV2 : w0.heap.size ≤ w5.heap.size := (Nat.le_trans HV (Nat.le_trans (by simp) hb.size)); have HP2 := HP1.below hb; (try have HN2 := blk_below HN1 hb); clear hb; (try clear HN1); clear HP1; (try (have hk0 := (blk_cell HN2 0).trans rfl; have hk1 := (blk_cell HN2 1).trans rfl; have hk2 := (blk_cell HN2 2).trans rfl; have hf0 := blk_frozen HN2 0; have hf1 := blk_frozen HN2 1; have hf2 := blk_frozen HN2 2)))
                  | fail)
              · go_wp2_with fail
                go_meet
                exact ⟨_, Sq1, rfl, ⟨blk_new w5 _⟩, ⟨fun h => by have := HSS.out _ h; omega, by have := HBS.out; omega⟩, ⟨HP2.below (below_alloc (Below.refl _ _) _)⟩⟩
              · go_wp2_with fail
                go_meet
                exact ⟨_, Sq1, rfl, ⟨(RA.out3 HP2 HN2 HT HU _ _ _).2⟩, ⟨fun h => Nat.lt_irrefl _ (HT _ h), HU⟩, ⟨(RA.out3 HP2 HN2 HT HU _ _ _).1⟩⟩
              · go_wp2_with fail
                go_meet
                exact ⟨_, Sq1, rfl, ⟨(RA.out3 HP2 HN2 HT HU _ _ _).2⟩, ⟨fun h => Nat.lt_irrefl _ (HT _ h), HU⟩, ⟨(RA.out3 HP2 HN2 HT HU _ _ _).1⟩⟩
            case rest =>
              clear HRA H2c H3c
              obtain ⟨xb, Sq1, rfl, HX, HXS, HP⟩ := hcut
              generalize wc = w6 at *
              have hxw0 := HXW.out
              go_upto_region 12 with (fail)
              go_cut [11] from 55 to 66 (fun s11 wx => ∃ (v : Value) (Sq Sw : Nat → Prop), s11 = .pointer (some ⟨xb, 0, none⟩) ∧ Aside0 (RA w wx #[.int .i64 n, .int .i64 sa, .slice A la.length ca] #[.int .i64 n, .int .i64 sb, .slice B lb.length cb] (.slice (some ad) qe.length c8) Sq qe) ∧
                Aside0 (XW w wx xb (y1, y2) v Sq Sw (x.wd ++ [(e : Int)])))
              case first =>
                obtain ⟨Sq2, HP2, HSS, HSQ⟩ := (HP.out).bound2
                obtain ⟨_, _, Aw, cw, hcw, hCw⟩ := kA_at (HP.out).hQ hix rfl
                have HXW2 := Aside0.mk (show ∀ (hi : i < qe.length), qe[i].wd = x.wd from fun hi => by
                  obtain ⟨_, he⟩ := List.getElem?_eq_some_iff.1 HXE.out
                  rw [he])
                rw [HXW2.out hix] at hcw hCw
                have HCW := Aside0.mk hCw
                clear hCw HXW2
                have hz2 : w6.cell? ⟨xb, 2, none⟩ = some (.slice none 0 0) := (blk_cell HX.out 2).trans rfl
                have hz3 := pw_cell_below (below_alloc (Below.refl w6.heap.size w6) (.cells #[.int .i64 (e : Int)] 3)) hz2
                have hcw3 := pw_cell_below (below_alloc (Below.refl w6.heap.size w6) (.cells #[.int .i64 (e : Int)] 3)) hcw
                go_region_law (first
                  | (refine Kd.R_append_rows_step (Kd.int .i64) (Rr := fun x cs => cs = [Value.int .i64 x]) (w0 := w6) w6.heap.size (by simp [Region.wanted]) (.tmp 56) (.tmp 61) 25 3 (.int .i64 0) 8 rfl Try.underlying25 info3 rfl (by decide) (by omega) (.slice none 0 0) [] x.wd Aw x.wd.length cw (fun k => w6.heap.size ≤ k) (fun _ => False) (by rfl) (by rfl) (Kd.R_nil _ _ _ _ _) (Kd.C_below HCW.out (below_drew (Below.refl _ _))) (fun _ _ h => h) (fun _ hk => hk.elim) (fun k hk => hk) (below_drew (Below.refl _ _)) (Nat.le_refl _) (by simp; omega) ?_; intro v1 w1 hr1 hb1 hg1 hat1; clear hat1; rw [List.nil_append] at hr1; (obtain ⟨A1, c1, rfl⟩ := Kd.R_slice hr1); have HS1 := Aside0.mk hb1.size; have HR1 := Aside0.mk hr1; have HB1 := Aside0.mk hb1; clear hr1 hb1 hg1)
                  | (refine Kd.R_append_rows_step (Kd.int .i64) (Rr := fun x cs => cs = [Value.int .i64 x]) (w0 := w6) w6.heap.size (by simp [Region.wanted]) (.tmp 56) (.tmp 61) 25 3 (.int .i64 0) 8 rfl Try.underlying25 info3 rfl (by decide) (by omega) (.slice none 0 0) [] x.wd Aw x.wd.length cw (fun k => w6.heap.size ≤ k) (fun _ => False) (by rfl) (by rfl) (Kd.R_nil _ _ _ _ _) (Kd.C_below HCW.out (below_drew (below_alloc (Below.refl _ _) (.cells #[.int .i64 (e : Int)] 3)))) (fun _ _ h => h) (fun _ hk => hk.elim) (fun k hk => by simp at hk; omega) (below_drew (below_alloc (Below.refl _ _) (.cells #[.int .i64 (e : Int)] 3))) (by simp) (by simp; omega) ?_; intro v1 w1 hr1 hb1 hg1 hat1; clear hat1; rw [List.nil_append] at hr1; (obtain ⟨A1, c1, rfl⟩ := Kd.R_slice hr1); have HBX := Aside0.mk (blk_below (blk_drew (blk_new w6 (.cells #[.int .i64 (e : Int)] 3))) (show Below _ _ w1 from ⟨hg1.os, hg1.tape, hg1.output, hg1.size, fun i hi => hg1.block i hi (by simp [Value.ownBlock])⟩)); have HS1 := Aside0.mk hb1.size; have HR1 := Aside0.mk hr1; have HB1 := Aside0.mk hb1; clear hr1 hb1 hg1)
                  | (refine Kd.R_append_rows_step (Kd.int .i64) (Rr := fun x cs => cs = [Value.int .i64 x]) (w0 := w6) w6.heap.size (by simp [Region.wanted]) (.tmp 62) (.tmp 64) 25 3 (.int .i64 0) 8 rfl Try.underlying25 info3 rfl (by decide) (by omega) (.slice A1 x.wd.length c1) x.wd [(e : Int)] (some ⟨w6.heap.size, 0, none⟩) 1 1 (fun k => w6.heap.size ≤ k) (fun _ => False) (by rfl) (by rfl) HR1.out (box_row HBX.out) (fun _ _ h => h) (fun _ hk => hk.elim) (fun k hk => Nat.le_trans HS1.out hk) HB1.out HS1.out (by omega) ?_; intro v2 w2 hr2 hb2 hg2 hat2; (obtain ⟨A2, c2, e2⟩ := Kd.R_slice hr2); rw [List.length_append, List.length_singleton] at e2; subst e2; have hcx : w2.cell? ⟨xb, 2, none⟩ = some (.slice none 0 0) := (blk_cell (blk_below' HX.out hb2) 2).trans rfl; have hfx : w2.frozen? ⟨xb, 2, none⟩ = false := blk_frozen (blk_below' HX.out hb2) 2; have HR2 := Aside0.mk hr2; have HB2 := Aside0.mk hb2; clear hr2 hb2 hg2 hat2)
                  | (refine Kd.R_append_rows_step (Kd.int .i64) (Rr := fun x cs => cs = [Value.int .i64 x]) (w0 := w6) w6.heap.size (by simp [Region.wanted]) (.tmp 62) (.tmp 64) 25 3 (.int .i64 0) 8 rfl Try.underlying25 info3 rfl (by decide) (by omega) (.slice A1 x.wd.length c1) x.wd [(e : Int)] (some ⟨w1.heap.size, 0, none⟩) 1 1 (fun k => w6.heap.size ≤ k) (fun _ => False) (by rfl) (by rfl) (Kd.R_alloc HR1.out _) (box_row (blk_new w1 (.cells #[.int .i64 (e : Int)] 3))) (fun _ _ h => h) (fun _ hk => hk.elim) (fun k hk => by simp at hk; have := HS1.out; omega) (below_alloc6 HB1.out HS1.out _) (by simp; have := HS1.out; omega) (by omega) ?_; intro v2 w2 hr2 hb2 hg2 hat2; (obtain ⟨A2, c2, e2⟩ := Kd.R_slice hr2); rw [List.length_append, List.length_singleton] at e2; subst e2; have hcx : w2.cell? ⟨xb, 2, none⟩ = some (.slice none 0 0) := (blk_cell (blk_below' HX.out hb2) 2).trans rfl; have hfx : w2.frozen? ⟨xb, 2, none⟩ = false := blk_frozen (blk_below' HX.out hb2) 2; have HR2 := Aside0.mk hr2; have HB2 := Aside0.mk hb2; clear hr2 hb2 hg2 hat2)
                  | fail)
                all_goals
                  go_wp2_with fail
                  go_meet
                  have HRA3 := (HP2.out).below HB2.out
                  have HX3 := blk_below' HX.out HB2.out
                  have hlt6 : xb < w6.heap.size := (Array.getElem?_eq_some_iff.1 HX.out).1
                  exact ⟨_, Sq2, fun k => w6.heap.size ≤ k, rfl, ⟨HRA3.other HX3 (by decide) (HXS.out).2 (fun h => (HXS.out).1 (HSQ.out _ h)) (grown_setCell w2 ⟨xb, 2, none⟩ _)⟩, ⟨blk_set HX3 2 _, Kd.R_lower (Kd.R_far HR2.out (p := ⟨xb, 2, none⟩) (fun k hk he => by subst he; omega) _) ((HP2.out).hb).size, fun k ha hb => by have := HSS.out k ha; omega⟩⟩
              case rest =>
                clear HP HX HXS
                obtain ⟨v, Sq3, Sw, rfl, HP, HX⟩ := hcut
                generalize wc = w7 at *
                generalize x.wd ++ [(e : Int)] = wd at *
                obtain ⟨Aw, cw, rfl⟩ := Kd.R_slice (HX.out).hw
                have hk0 : w7.cell? ⟨xb, 0, none⟩ = some (.int .i64 y1) := (blk_cell (HX.out).hx 0).trans rfl
                have hk1 : w7.cell? ⟨xb, 1, none⟩ = some (.int .i64 y2) := (blk_cell (HX.out).hx 1).trans rfl
                have hk2 : w7.cell? ⟨xb, 2, none⟩ = some (.slice Aw wd.length cw) := (blk_cell (HX.out).hx 2).trans rfl
                go_upto_region 13 with (fail)
                go_cut [73] from 67 to 73 (fun s73 wx => s73 = .bool (oneB (y1, y2)) ∧ w7 = wx)
                case first =>
                  by_cases h1 : y1 < 0
                  all_goals by_cases h2 : y2 < 0
                  all_goals
                    first
                      | have k1 : decide (y1 < 0) = true := by simpa using h1
                      | have k1 : decide (y1 < 0) = false := by simpa using h1
                    first
                      | have k2 : decide (y2 < 0) = true := by simpa using h2
                      | have k2 : decide (y2 < 0) = false := by simpa using h2
                    go_wp2
                    go_meet
                    refine ⟨?_, rfl⟩
                    unfold oneB
                    rw [k1, k2]
                    rfl
                case rest =>
                  obtain ⟨rfl, rfl⟩ := hcut
                  cases hone : oneB (y1, y2) with
                  | true =>
                    have HW := Aside0.mk (show av = some wd from by
                      rw [HV.out]
                      have := HFD.out _ (HF1.out hone) (N - (i + 1))
                      rwa [show i + 1 + (N - (i + 1)) = N from by omega] at this)
                    clear hone
                    go_wp2
                    go_ret3
                    rw [HW.out]
                    have hrr := Kd.R_reads' (HX.out).hw
                    exact ⟨Aw, cw, hrr.2.1, rfl, hrr.2.2, (HP.out).hb⟩
                  | false =>
                    have HN2 := Aside0.mk (HN1.out hone)
                    rw [hone, Bool.false_or] at HRS
                    clear hone HF1 HN1 HFD
                    generalize hsn : decide (y1 < 0) = sn at *
                    have HSN := Aside0.mk hsn
                    clear hsn
                    clear hk1 hk2
                    go_wp2
                    clear hk0
                    go_loopg [12, 81] qe.length (fun gg3 v12 v81 wi => ∃ (k : Nat) (b : Bool), k ≤ qe.length ∧ qe.length - k ≤ gg3 ∧ v81 = .int .i64 k ∧ v12 = .bool b ∧ Aside0 (b = (decide (y1 < 0) || (qe.take k).any fun z => decide (z.p = (y1, y2)))) ∧
                      Aside0 (RA w wi #[.int .i64 n, .int .i64 sa, .slice A la.length ca] #[.int .i64 n, .int .i64 sb, .slice B lb.length cb] (.slice (some ad) qe.length c8) Sq3 qe) ∧ Aside0 (XW w wi xb (y1, y2) (.slice Aw wd.length cw) Sq3 Sw wd))
                    case atStart => exact ⟨0, _, by omega, by omega, rfl, rfl, ⟨by rw [HSN.out]; simp⟩, HP, HX⟩
                    case round =>
                      clear HP HX
                      obtain ⟨k, b, hkq, hg3, rfl, rfl, HBK, HP, HX⟩ := hrel
                      by_cases hkt : k < qe.length
                      · have hktz : (k : Int) < (qe.length : Int) := by omega
                        obtain ⟨ht0, ht1, Az, cz, ht2, _⟩ := kA_at (HP.out).hQ hkt rfl
                        have HTK := Aside0.mk (show (qe.take (k + 1)).any (fun z => decide (z.p = (y1, y2))) = ((qe.take k).any (fun z => decide (z.p = (y1, y2))) || decide (qe[k].p = (y1, y2))) from by rw [List.take_succ_eq_append_getElem hkt, List.any_append]; simp)
                        generalize qe[k] = z at *
                        go_upto_region 19 with (fail)
                        have HP2 := Aside0.mk ((HP.out).below (below_alloc (Below.refl wr.heap.size wr) (.cells #[.int .i64 z.p.1, .int .i64 z.p.2, .slice Az z.wd.length cz] 65)))
                        have HX2 := Aside0.mk ((HX.out).below (below_alloc (Below.refl wr.heap.size wr) (.cells #[.int .i64 z.p.1, .int .i64 z.p.2, .slice Az z.wd.length cz] 65)))
                        have HZ2 := Aside0.mk (blk_new wr (.cells #[.int .i64 z.p.1, .int .i64 z.p.2, .slice Az z.wd.length cz] 65))
                        clear HP HX ht0 ht1 ht2
                        generalize (wr.alloc (.cells #[.int .i64 z.p.1, .int .i64 z.p.2, .slice Az z.wd.length cz] 65)) = w8 at *
                        generalize wr.heap.size = zb at *
                        have hz0 : w8.cell? ⟨zb, 0, none⟩ = some (.int .i64 z.p.1) := (blk_cell HZ2.out 0).trans rfl
                        have hz1 : w8.cell? ⟨zb, 1, none⟩ = some (.int .i64 z.p.2) := (blk_cell HZ2.out 1).trans rfl
                        have hk0 : w8.cell? ⟨xb, 0, none⟩ = some (.int .i64 y1) := (blk_cell (HX2.out).hx 0).trans rfl
                        have hk1 : w8.cell? ⟨xb, 1, none⟩ = some (.int .i64 y2) := (blk_cell (HX2.out).hx 1).trans rfl
                        generalize hzp : z.p = zp at *
                        obtain ⟨z1, z2⟩ := zp
                        have HZP := Aside0.mk (show decide (((z1, z2) : Int × Int) = (y1, y2)) = (decide (y1 = z1) && decide (y2 = z2)) from by
                          rw [Bool.eq_iff_iff]; simp; exact ⟨fun h => ⟨h.1.symm, h.2.symm⟩, fun h => ⟨h.1.symm, h.2.symm⟩⟩)
                        have HZE := Aside0.mk hzp
                        clear hzp
                        cases b with
                        | true =>
                          go_wp2
                          go_roundg (qe.length - (k + 1))
                          case measure => omega
                          case rel => exact ⟨k + 1, true, by omega, by omega, by go_num, rfl, ⟨by rw [HTK.out, ← Bool.or_assoc, ← HBK.out]; rfl⟩, HP2, HX2⟩
                        | false =>
                          by_cases h1 : y1 = z1
                          · have k1 : (y1 == z1) = true := beq_iff_eq.2 h1
                            have H1d := Aside0.mk (decide_eq_true h1)
                            clear h1
                            by_cases h2 : y2 = z2
                            · have k2 : (y2 == z2) = true := beq_iff_eq.2 h2
                              have H2d := Aside0.mk (decide_eq_true h2)
                              clear h2
                              go_wp2
                              go_roundg (qe.length - (k + 1))
                              case measure => omega
                              case rel => exact ⟨k + 1, true, by omega, by omega, by go_num, rfl, ⟨by rw [HTK.out, ← Bool.or_assoc, ← HBK.out, HZP.out, H1d.out, H2d.out]; rfl⟩, HP2, HX2⟩
                            · have k2 : (y2 == z2) = false := beq_eq_false_iff_ne.2 h2
                              have H2d := Aside0.mk (decide_eq_false h2)
                              clear h2
                              go_wp2
                              go_roundg (qe.length - (k + 1))
                              case measure => omega
                              case rel => exact ⟨k + 1, false, by omega, by omega, by go_num, rfl, ⟨by rw [HTK.out, ← Bool.or_assoc, ← HBK.out, HZP.out, H1d.out, H2d.out]; rfl⟩, HP2, HX2⟩
                          · have k1 : (y1 == z1) = false := beq_eq_false_iff_ne.2 h1
                            have H1d := Aside0.mk (decide_eq_false h1)
                            clear h1
                            go_wp2
                            go_roundg (qe.length - (k + 1))
                            case measure => omega
                            case rel => exact ⟨k + 1, false, by omega, by omega, by go_num, rfl, ⟨by rw [HTK.out, ← Bool.or_assoc, ← HBK.out, HZP.out, H1d.out]; rfl⟩, HP2, HX2⟩
                      · have hktz : ¬ (k : Int) < (qe.length : Int) := by omega
                        obtain rfl : k = qe.length := by omega
                        have HSB := Aside0.mk (show seenB (y1, y2) qe = b from by rw [HBK.out, List.take_length]; rfl)
                        rw [HSB.out] at HRS
                        cases b with
                        | true =>
                          simp only [if_true] at HRS
                          go_wp2
                          go_roundg (n - (e + 1))
                          case measure => omega
                          case rel =>
                            refine ⟨e + 1, Sq3, by omega, by omega, by go_num, HN2, ?_⟩
                            rw [HRS.out]
                            exact HP
                        | false =>
                          simp only [Bool.false_eq_true, if_false] at HRS
                          have hlq2 : (qe.length + 1) * 40 ≤ 140737488355328 := by omega
                          have hk0 : wr.cell? ⟨xb, 0, none⟩ = some (.int .i64 y1) := (blk_cell (HX.out).hx 0).trans rfl
                          have hk1 : wr.cell? ⟨xb, 1, none⟩ = some (.int .i64 y2) := (blk_cell (HX.out).hx 1).trans rfl
                          have hk2 : wr.cell? ⟨xb, 2, none⟩ = some (.slice Aw wd.length cw) := (blk_cell (HX.out).hx 2).trans rfl
                          go_wp2_with ((with_reducible refine gate_builtin (b := .append) (xs := #[.tmp 103, .tmp 105]) rfl ?_); at_builtin; refine Kd.R_append kA (w0 := w) w.heap.size rfl (.tmp 103) (.tmp 105) 66 65 (.agg #[.int .i64 0, .int .i64 0, .slice none 0 0]) 40 rfl Try.underlying66 info65 rfl (by decide) (by omega) (.slice (some ad) qe.length c8) qe ⟨(y1, y2), wd, x.p, e⟩ [.int .i64 y1, .int .i64 y2, .slice Aw wd.length cw] (fun k => (Sq3 k ∨ Sw k) ∨ wr.heap.size ≤ k) Sw rfl rfl (M_kA (t := ⟨(y1, y2), wd, x.p, e⟩) (HX.out).hw) (fun k hk => ⟨.inl (.inr hk), fun he => (HX.out).hd k ((HP.out).hQ.1 k he.symm) hk⟩) (fun k hk => .inr hk) (Kd.R_mono (HP.out).hQ (fun _ hk => .inl (.inl hk))) (HP.out).hb ((HP.out).hb).size hlq2 ?_; intro v9 w9 ho9 hb9 hg9 hat9; have HP9 := Aside0.mk ((HP.out).appQ ho9 hg9); clear ho9 hb9 hg9 hat9 HP HX)
                          go_roundg (n - (e + 1))
                          case measure => omega
                          case rel =>
                            refine ⟨e + 1, fun k => (Sq3 k ∨ Sw k) ∨ wr.heap.size ≤ k, by omega, by omega, by go_num, HN2, ?_⟩
                            rw [HRS.out]
                            exact HP9
          · have hlez : ¬ (e : Int) < (n : Int) := by omega
            obtain rfl : e = n := by omega
            have HN3 := Aside0.mk (HNX.out HRN.out)
            go_wp2
            go_roundg (N - (i + 1))
            case measure => omega
            case rel =>
              refine ⟨i + 1, Sq, by omega, by omega, by go_num, HN3, ?_⟩
              rw [HST.out]
              exact HRA
      · have hltz : ¬ (i : Int) < ((apTo la lb n (sa, sb) i).length : Int) := by omega
        have HW := Aside0.mk (show av = none from by
          rw [HV.out]
          have := apAns_stays HNO.out (List.getElem?_eq_none_iff.2 (by omega)) (N - i)
          rwa [show i + (N - i) = N from by omega] at this)
        generalize apTo la lb n (sa, sb) i = l at *
        go_wp2
        go_ret3
        rw [HW.out]
        exact ⟨none, 0, Nat.le_refl _, rfl, C_nil _, (HRA.out).hb⟩
  · have HW := Aside0.mk (show apVal ea sa la eb sb lb = none from if_neg hp)
    generalize apVal ea sa la eb sb lb = av at *
    generalize pairVal ea sa la eb sb lb = v at *
    have hv : (v == 0) = false := beq_eq_false_iff_ne.2 hp
    have hv2 : (v != 0) = true := bne_iff_ne.2 hp
    clear hp
    go_enter Try.func24, Try.ntmps24
    go_upto_region 1 with (fail)
    have HS := two3_begin w #[.int .i64 ea, .int .i64 sa, .slice A la.length ca] #[.int .i64 eb, .int .i64 sb, .slice B lb.length cb]
    generalize ((w.alloc (.cells #[.int .i64 ea, .int .i64 sa, .slice A la.length ca] 24)).alloc (.cells #[.int .i64 eb, .int .i64 sb, .slice B lb.length cb] 24)) = w0 at *
    obtain ⟨⟨hc0, hc1, hc2⟩, hd0, hd1, hd2⟩ := two3_held HS
    go_wp2_with fail
    refine (H1.out _ (HS.1).out).mono ?_
    rintro E w1 ⟨rfl, hb⟩
    have HS1 := two3_keep hb HS
    clear hb HS hc0 hc1 hc2 hd0 hd1 hd2 H1
    go_wp2
    go_ret3
    rw [HW.out]
    exact ⟨none, 0, Nat.le_refl _, rfl, C_nil _, (HS1.1).out⟩
end Go.Proofs.Ytmphigeefppfpaa.H
