/- Contracts of the generic slice helpers (IndexFunc, ContainsFunc) at whole numbers, for any function value that only reads. -/
import Derived.Test.YtmphigeefppfpaaQ0
namespace Go.Proofs.Ytmphigeefppfpaa.H
open Go.RowKit Go.Proofs.YtmphigeefppfpaaW.PrintWords Go.Proofs.YtmphigeefppfpaaW.PrintLast Go.Proofs.YtmphigeefppfpaaW.PrintMore

/-- A predicate handed over: at every x of dom, in every world that keeps what lay in w. -/
def PredW (g : Nat) (lb : Array Value) (enc : Int → Value) (dom : Int → Prop) (p : Int → Bool) (w : World) : Prop :=
  ∀ (W : World) (x : Int), Below w.heap.size w W → dom x → Calls Try.prog g (#[enc x] ++ lb) W fun e w' => e = .returned (.bool (p x)) ∧ Below W.heap.size W w'
theorem PredW.later {g : Nat} {lb : Array Value} {enc : Int → Value} {dom : Int → Prop} {p : Int → Bool} {w w1 : World} (h : PredW g lb enc dom p w) (hb : Below w.heap.size w w1) : PredW g lb enc dom p w1 :=
  fun W x hW hd => h W x (below_then hb hb.size hW) hd

/-- The first place where p holds, or -1. -/
def idxOf (p : Int → Bool) : List Int → Int
  | [] => -1
  | x :: xs => if p x then 0 else if idxOf p xs < 0 then -1 else idxOf p xs + 1
theorem idxOf_any (p : Int → Bool) (xs : List Int) : decide (idxOf p xs ≥ 0) = xs.any p := by
  induction xs with
  | nil => simp [idxOf]
  | cons x xs ih =>
    rw [List.any_cons, ← ih]
    simp only [idxOf]
    by_cases hp : p x = true
    · simp [hp]
    · by_cases h : idxOf p xs < 0
      · simp [hp, h]
      · simp [hp, h]; omega
theorem any_of_at {p : Int → Bool} {xs : List Int} {k : Nat} (h : k < xs.length) (hp : p (rd xs k) = true) : xs.any p = true := by
  refine List.any_eq_true.2 ⟨xs[k], List.getElem_mem h, ?_⟩
  have : rd xs (k : Int) = xs[k] := by simp [rd, List.getD_eq_getElem?_getD, List.getElem?_eq_getElem h]
  rw [← this]; exact hp
theorem any_of_none {p : Int → Bool} {xs : List Int} (h : ∀ j : Nat, j < xs.length → p (rd xs j) = false) : xs.any p = false := by
  refine List.any_eq_false.2 fun x hx => ?_
  obtain ⟨j, hj, rfl⟩ := List.getElem_of_mem hx
  have h2 := h j hj
  have : rd xs (j : Int) = xs[j] := by simp [rd, List.getD_eq_getElem?_getD, List.getElem?_eq_getElem hj]
  rw [this] at h2
  simp [h2]
theorem rd_mem {xs : List Int} {k : Nat} (h : k < xs.length) : rd xs (k : Int) ∈ xs := by
  have : rd xs (k : Int) = xs[k] := by simp [rd, List.getD_eq_getElem?_getD, List.getElem?_eq_getElem h]
  rw [this]; exact List.getElem_mem h

set_option maxHeartbeats 2000000 in
theorem indexFunc_calls (A : Option Addr) (c : Nat) (xs : List Int) (g : Nat) (lb : Array Value) (dom : Int → Prop) (p : Int → Bool) (w : World)
    (hr : Kd.C (Kd.int .i64) w A xs.length xs) (hd : ∀ x ∈ xs, dom x) (hp : PredW g lb (Value.int .i64) dom p w)
    (eg : ∀ args w, (callFunc g args).run Try.prog w = .ok (.enter g args) w) :
    Calls Try.prog 62 #[.slice A xs.length c, .func (.func g) #[] lb] w fun e w' => ∃ r : Int, e = .returned (.int .i64 r) ∧ decide (r ≥ 0) = xs.any p ∧ Below w.heap.size w w' := by
  have HR := Aside0.mk hr
  have HP := Aside0.mk hp
  have HD := Aside0.mk hd
  have hm := hr.2.1
  clear hr hp hd
  go_enter Try.func62, Try.ntmps62
  go_wp2
  go_loopg [5, 8] xs.length (fun gg _ s8 wr => ∃ kk : Nat, kk ≤ xs.length ∧ xs.length - kk ≤ gg ∧ s8 = .int .i64 kk ∧ Aside0 (Below w.heap.size w wr) ∧ Aside0 (∀ j : Nat, j < kk → p (rd xs j) = false))
  case atStart => exact ⟨0, Nat.zero_le _, by omega, rfl, ⟨Below.refl _ w⟩, ⟨fun j hj => absurd hj (Nat.not_lt_zero _)⟩⟩
  case round =>
    obtain ⟨kk, hkk, hg, rfl, BW, HA⟩ := hrel
    by_cases hlt : kk < xs.length
    · have hltz : (kk : Int) < (xs.length : Int) := by omega
      obtain ⟨ad, e0, hx⟩ := Kd.at_int (HR.out) (kk : Int) (by omega) hltz
      rw [Int.toNat_natCast] at hx
      cases e0
      have hx' := pw_cell_below BW.out hx
      clear hx
      have hcall := HP.out wr (rd xs kk) BW.out (HD.out _ (rd_mem hlt))
      generalize hy : rd xs (kk : Int) = y at hx' hcall
      have HY := Aside0.mk hy
      clear hy
      cases hq : p y with
      | true =>
        rw [hq] at hcall
        have HQ := Aside0.mk hq
        clear hq
        go_wp2_with fail
        refine hcall.mono ?_
        rintro e w' ⟨rfl, hb'⟩
        have HB' := Aside0.mk hb'
        clear hb' hcall
        go_wp2
        go_ret
        refine ⟨(kk : Int), rfl, ?_, below_then BW.out (BW.out).size HB'.out⟩
        rw [any_of_at (k := kk) (by assumption) (by rw [HY.out]; exact HQ.out)]
        simp
      | false =>
        rw [hq] at hcall
        have HQ := Aside0.mk hq
        clear hq
        go_wp2_with fail
        refine hcall.mono ?_
        rintro e w' ⟨rfl, hb'⟩
        have HB' := Aside0.mk hb'
        clear hb' hcall
        go_wp2
        go_roundg (xs.length - (kk + 1))
        case measure => omega
        case rel =>
          refine ⟨kk + 1, by omega, by omega, by go_num, ⟨below_then BW.out (BW.out).size HB'.out⟩, ⟨fun j hj => ?_⟩⟩
          by_cases e : j = kk
          · subst e
            rw [HY.out]; exact HQ.out
          · exact HA.out j (by omega)
    · have hltz : ¬ (kk : Int) < (xs.length : Int) := by omega
      go_wp2
      go_ret
      refine ⟨-1, rfl, ?_, BW.out⟩
      rw [any_of_none (fun j hj => HA.out j (by omega))]
      rfl

set_option maxHeartbeats 2000000 in
theorem containsFunc_calls (A : Option Addr) (c : Nat) (xs : List Int) (g : Nat) (lb : Array Value) (dom : Int → Prop) (p : Int → Bool) (w : World)
    (hr : Kd.C (Kd.int .i64) w A xs.length xs) (hd : ∀ x ∈ xs, dom x) (hp : PredW g lb (Value.int .i64) dom p w)
    (eg : ∀ args w, (callFunc g args).run Try.prog w = .ok (.enter g args) w) :
    Calls Try.prog 38 #[.slice A xs.length c, .func (.func g) #[] lb] w fun e w' => e = .returned (.bool (xs.any p)) ∧ Below w.heap.size w w' := by
  have H := (indexFunc_calls A c xs g lb dom p w hr hd hp eg)
  clear hr hd hp
  go_enter Try.func38, Try.ntmps38
  go_wp2_with fail
  refine H.mono ?_
  rintro e w' ⟨r, rfl, hq, hb⟩
  have HQ := Aside0.mk hq
  have HB := Aside0.mk hb
  clear hq hb H
  go_wp2
  go_ret
  exact ⟨by rw [← HQ.out]; rfl, HB.out⟩

/-- spec.Check$1: q < -1 || q >= n, with n in a cell. -/
theorem check1_calls (x n : Int) (b : Addr) (w : World) (hc : w.cell? b = some (.int .i64 n)) :
    Calls Try.prog 40 #[.int .i64 x, .pointer (some b)] w fun e w' => e = .returned (.bool (decide (x < -1) || decide (x ≥ n))) ∧ Below w.heap.size w w' := by
  by_cases h1 : x < -1
  · have h2 : decide (x < -1) = true := by simpa using h1
    have H2 := Aside0.mk h2
    clear h1
    go_enter Try.func40, Try.ntmps40
    go_wp2
    repeat (go_quiet (fail); try go_wp2)
    go_ret
    exact ⟨by rw [H2.out]; rfl, Below.refl _ _⟩
  · have h2 : decide (x < -1) = false := by simpa using h1
    have H2 := Aside0.mk h2
    clear h1
    go_enter Try.func40, Try.ntmps40
    go_wp2
    repeat (go_quiet (fail); try go_wp2)
    go_ret
    exact ⟨by rw [H2.out, Bool.false_or]; rfl, Below.refl _ _⟩

/-- Check's own head. -/
def headOk (ev st : Int) (n : Nat) : Bool := decide (0 ≤ ev) && decide (ev ≤ 16) && decide (1 ≤ n) && decide (n ≤ 64) && decide (0 ≤ st) && decide (st < (n : Int))
def rowOk (ev : Int) (n : Nat) (r : List Int) : Bool := decide ((r.length : Int) = ev) && r.all fun q => decide (-1 ≤ q) && decide (q < (n : Int))
def specOk (ev st : Int) (l : List (List Int)) : Bool := headOk ev st l.length && l.all (rowOk ev l.length)

theorem headOk_false {ev st : Int} {n : Nat} (h : headOk ev st n = false) : ev < 0 ∨ (¬ ev < 0 ∧ ev > 16) ∨ (¬ ev < 0 ∧ ¬ ev > 16 ∧ (n : Int) < 1) ∨ (¬ ev < 0 ∧ ¬ ev > 16 ∧ ¬ (n : Int) < 1 ∧ (n : Int) > 64) ∨ (¬ ev < 0 ∧ ¬ ev > 16 ∧ ¬ (n : Int) < 1 ∧ ¬ (n : Int) > 64 ∧ st < 0) ∨ (¬ ev < 0 ∧ ¬ ev > 16 ∧ ¬ (n : Int) < 1 ∧ ¬ (n : Int) > 64 ∧ ¬ st < 0 ∧ st ≥ (n : Int)) := by
  simp only [headOk, Bool.and_eq_false_iff, decide_eq_false_iff_not] at h
  omega
theorem headOk_true {ev st : Int} {n : Nat} (h : headOk ev st n = true) : ¬ ev < 0 ∧ ¬ ev > 16 ∧ ¬ (n : Int) < 1 ∧ ¬ (n : Int) > 64 ∧ ¬ st < 0 ∧ ¬ st ≥ (n : Int) := by
  simp only [headOk, Bool.and_eq_true, decide_eq_true_eq] at h
  omega

theorem check_bad (ev st : Int) (A : Option Addr) (c : Nat) (l : List (List Int)) (w : World) (h : headOk ev st l.length = false) :
    Calls Try.prog 17 #[.agg #[.int .i64 ev, .int .i64 st, .slice A l.length c]] w fun e w' => e = .returned (.int .i64 11) ∧ Below w.heap.size w w' := by
  rcases headOk_false h with h0 | ⟨h0, h1⟩ | ⟨h0, h1, h2⟩ | ⟨h0, h1, h2, h3⟩ | ⟨h0, h1, h2, h3, h4⟩ | ⟨h0, h1, h2, h3, h4, h5⟩
  all_goals
    clear h
    go_enter Try.func17, Try.ntmps17
    go_wp2
    go_ret
    exact ⟨rfl, by repeat (first | exact Below.refl _ _ | apply below_alloc | apply pw_below_drewN | apply below_drew1)⟩

theorem rowOk_any (ev : Int) (n : Nat) (r : List Int) (h : (r.length : Int) = ev) : rowOk ev n r = !(r.any fun q => decide (q < -1) || decide (q ≥ (n : Int))) := by
  simp only [rowOk, h, decide_true, Bool.true_and, List.all_eq_not_any_not]
  congr 2
  funext q
  rw [Bool.eq_iff_iff]
  simp
theorem all_of_at {α : Type} {p : α → Bool} {xs : List α} (d : α) (h : ∀ j : Nat, j < xs.length → p (xs.getD j d) = true) : xs.all p = true := by
  refine List.all_eq_true.2 fun x hx => ?_
  obtain ⟨j, hj, rfl⟩ := List.getElem_of_mem hx
  have h2 := h j hj
  rwa [List.getD_eq_getElem?_getD, List.getElem?_eq_getElem hj] at h2
theorem all_of_none {α : Type} {p : α → Bool} {xs : List α} (d : α) {j : Nat} (hj : j < xs.length) (h : p (xs.getD j d) = false) : xs.all p = false := by
  refine List.all_eq_false.2 ⟨xs[j], List.getElem_mem hj, ?_⟩
  rw [List.getD_eq_getElem?_getD, List.getElem?_eq_getElem hj] at h
  simpa using h
theorem blk_at2 (w : World) (o o' : Obj) : ((w.alloc o).alloc o').heap[w.heap.size + 1]? = some o' := by
  have h := blk_new (w.alloc o) o'
  rwa [show (w.alloc o).heap.size = w.heap.size + 1 from by simp] at h
theorem run_mkfun (fn : Fn) (first cap : Array Value) (w : World) : (Instr.makeFunc fn first cap).run Try.prog w = .ok (.func fn first cap) w := rfl
theorem check1_pred (n : Int) (b : Addr) (w : World) (hc : w.cell? b = some (.int .i64 n)) : PredW 40 #[.pointer (some b)] (Value.int .i64) (fun _ => True) (fun q => decide (q < -1) || decide (q ≥ n)) w :=
  fun _ x hb _ => check1_calls x n b _ (pw_cell_below hb hc)

/-- What Check says of a specification whose head is good. -/
def checkRes (ev : Int) (l : List (List Int)) : Int := if l.all (rowOk ev l.length) then 0 else 11

set_option maxHeartbeats 2000000 in
theorem check_good (ev st : Int) (A : Option Addr) (c : Nat) (l : List (List Int)) (w : World) (hr : Kd.C (Kd.slice 3 (Kd.int .i64)) w A l.length l) (h : headOk ev st l.length = true) :
    Calls Try.prog 17 #[.agg #[.int .i64 ev, .int .i64 st, .slice A l.length c]] w fun e w' => e = .returned (.int .i64 (checkRes ev l)) ∧ Below w.heap.size w w' := by
  obtain ⟨h0, h1, h2, h3, h4, h5⟩ := headOk_true h
  have HR := Aside0.mk hr
  have hm := hr.2.1
  have hmf := run_mkfun
  clear h hr
  go_enter Try.func17, Try.ntmps17
  go_wp2
  go_loopg [39] l.length (fun gg v39 wr => ∃ kk : Nat, kk ≤ l.length ∧ l.length - kk ≤ gg ∧ v39 = .int .i64 kk ∧ Aside0 (Below w.heap.size w wr) ∧ Aside0 (wr.heap[w.heap.size]? = some (.cells #[.int .i64 ev, .int .i64 st, .slice A l.length c] 24 (0, 0))) ∧ Aside0 (wr.heap[w.heap.size + 1]? = some (.cells #[.int .i64 (l.length : Int)] 3 (0, 0))) ∧ Aside0 (∀ j : Nat, j < kk → rowOk ev l.length (l.getD j []) = true))
  case atStart => exact ⟨0, Nat.zero_le _, by omega, rfl, ⟨by repeat (first | exact Below.refl _ _ | apply below_alloc | apply pw_below_drewN | apply below_drew1)⟩, ⟨blk_alloc (blk_new _ _) _⟩, ⟨blk_at2 _ _ _⟩, ⟨fun j hj => absurd hj (Nat.not_lt_zero _)⟩⟩
  case round =>
    obtain ⟨kk, hkk, hg, rfl, BW, HX, HN, HA⟩ := hrel
    by_cases hlt : kk < l.length
    · have hltz : (kk : Int) < (l.length : Int) := by omega
      obtain ⟨ad, A0, c0, e0, hx, hl0, hr0⟩ := Q.at_L1 (Kd.C_below HR.out BW.out) (kk : Int) (by omega) hltz
      cases e0
      rw [Int.toNat_natCast] at hx
      have HRow := Aside0.mk hr0
      clear hr0
      have hz0 : wr.cell? ⟨w.heap.size, 0, none⟩ = some (.int .i64 ev) := (blk_cell HX.out 0).trans rfl
      generalize hy : Q.rd_L1 l (kk : Int) = y at hx HRow hl0
      have HY := Aside0.mk (show l.getD kk [] = y by rw [← hy]; simp [Q.rd_L1])
      clear hy
      by_cases hlen : (y.length : Int) = ev
      · have d0 : ((y.length : Int) == ev) = true := beq_iff_eq.2 hlen
        have d1 : ((y.length : Int) != ev) = false := bne_eq_false_iff_eq.2 hlen
        have HL := Aside0.mk hlen
        have hnn : wr.cell? ⟨w.heap.size + 1, 0, none⟩ = some (.int .i64 (l.length : Int)) := (blk_cell HN.out 0).trans rfl
        have HC := Aside0.mk (containsFunc_calls A0 c0 y 40 #[.pointer (some ⟨w.heap.size + 1, 0, none⟩)] (fun _ => True) _ wr HRow.out (fun _ _ => trivial) (check1_pred _ _ _ hnn) (fun _ _ => rfl))
        clear hlen hnn
        have HRO := Aside0.mk (rowOk_any ev l.length y HL.out)
        cases hq : (y.any fun q => decide (q < -1) || decide (q ≥ (l.length : Int))) with
        | true =>
          rw [hq] at HC HRO
          clear hq
          go_wp2_with fail
          refine HC.out.mono ?_
          rintro e w' ⟨rfl, hb'⟩
          have HB' := Aside0.mk hb'
          clear hb' HC
          go_wp2
          go_ret
          refine ⟨?_, below_then BW.out (BW.out).size HB'.out⟩
          rw [checkRes, all_of_none [] (by assumption) (by rw [HY.out, HRO.out]; rfl)]
          rfl
        | false =>
          rw [hq] at HC HRO
          clear hq
          go_wp2_with fail
          refine HC.out.mono ?_
          rintro e w' ⟨rfl, hb'⟩
          have HB' := Aside0.mk hb'
          clear hb' HC
          go_wp2
          go_roundg (l.length - (kk + 1))
          case measure => omega
          case rel =>
            refine ⟨kk + 1, by omega, by omega, by go_num, ⟨below_then BW.out (BW.out).size HB'.out⟩, ⟨blk_below HX.out HB'.out⟩, ⟨blk_below HN.out HB'.out⟩, ⟨fun j hj => ?_⟩⟩
            by_cases e : j = kk
            · subst e
              rw [HY.out]; exact HRO.out
            · exact HA.out j (by omega)
      · have d0 : ((y.length : Int) == ev) = false := beq_eq_false_iff_ne.2 hlen
        have d1 : ((y.length : Int) != ev) = true := bne_iff_ne.2 hlen
        have HL := Aside0.mk hlen
        clear hlen
        go_wp2
        go_ret
        refine ⟨?_, BW.out⟩
        rw [checkRes, all_of_none [] (by assumption) (by rw [HY.out, rowOk, decide_eq_false HL.out]; rfl)]
        rfl
    · have hltz : ¬ (kk : Int) < (l.length : Int) := by omega
      go_wp2
      go_ret
      refine ⟨?_, BW.out⟩
      rw [checkRes, all_of_at [] (fun j hj => HA.out j (by omega))]
      rfl

/-- Check, whatever the specification. -/
def checkVal (ev st : Int) (l : List (List Int)) : Int := if specOk ev st l then 0 else 11
theorem check_calls (ev st : Int) (A : Option Addr) (c : Nat) (l : List (List Int)) (w : World) (hr : Kd.C (Kd.slice 3 (Kd.int .i64)) w A l.length l) :
    Calls Try.prog 17 #[.agg #[.int .i64 ev, .int .i64 st, .slice A l.length c]] w fun e w' => e = .returned (.int .i64 (checkVal ev st l)) ∧ Below w.heap.size w w' := by
  cases h : headOk ev st l.length with
  | true =>
    rw [show checkVal ev st l = checkRes ev l from by simp [checkVal, checkRes, specOk, h]]
    exact check_good ev st A c l w hr h
  | false =>
    rw [show checkVal ev st l = 11 from by simp [checkVal, specOk, h]]
    exact check_bad ev st A c l w h

/-! ### Read -/
def stepAt (l : List (List Int)) (q x : Int) : Int := rd (Q.rd_L1 l q) x
/-- The state behind a word, and how many of its events were allowed. -/
def readFrom (l : List (List Int)) : Int → Nat → List Int → Int × Nat
  | q, i, [] => (q, i)
  | q, i, x :: xs => if stepAt l q x < 0 then (-1, i) else readFrom l (stepAt l q x) (i + 1) xs
def evBad (ev x : Int) : Bool := decide (x < 0) || decide (x ≥ ev)
theorem specOk_head {ev st : Int} {l : List (List Int)} (h : specOk ev st l = true) : headOk ev st l.length = true := by
  simp only [specOk, Bool.and_eq_true] at h; exact h.1
theorem specOk_row {ev st : Int} {l : List (List Int)} (h : specOk ev st l = true) {q : Int} (h0 : 0 ≤ q) (h1 : q < l.length) : (((Q.rd_L1 l q).length : Int) = ev) ∧ ∀ x ∈ Q.rd_L1 l q, -1 ≤ x ∧ x < l.length := by
  simp only [specOk, Bool.and_eq_true, List.all_eq_true] at h
  have hq : q.toNat < l.length := by omega
  have h2 := h.2 (Q.rd_L1 l q) (by simp [Q.rd_L1, List.getD_eq_getElem?_getD, List.getElem?_eq_getElem hq])
  simp only [rowOk, Bool.and_eq_true, decide_eq_true_eq, List.all_eq_true] at h2
  exact h2
theorem rd_mem' {xs : List Int} {x : Int} (h0 : 0 ≤ x) (h : x < xs.length) : rd xs x ∈ xs := by
  have hq : x.toNat < xs.length := by omega
  simp [rd, List.getD_eq_getElem?_getD, List.getElem?_eq_getElem hq]
theorem stepAt_range {ev st : Int} {l : List (List Int)} (h : specOk ev st l = true) {q x : Int} (h0 : 0 ≤ q) (h1 : q < l.length) (hx0 : 0 ≤ x) (hx1 : x < ev) : -1 ≤ stepAt l q x ∧ stepAt l q x < l.length := by
  obtain ⟨hl, hm⟩ := specOk_row h h0 h1
  exact hm _ (rd_mem' hx0 (by omega))

theorem read1_calls (x ev : Int) (b : Nat) (w : World) (hc : w.cell? ⟨b, 0, none⟩ = some (.int .i64 ev)) :
    Calls Try.prog 39 #[.int .i64 x, .pointer (some ⟨b, 0, none⟩)] w fun e w' => e = .returned (.bool (evBad ev x)) ∧ Below w.heap.size w w' := by
  by_cases h1 : x < 0
  · have h2 : decide (x < 0) = true := by simpa using h1
    have H2 := Aside0.mk h2
    clear h1
    go_enter Try.func39, Try.ntmps39
    go_wp2
    repeat (go_quiet (fail); try go_wp2)
    go_ret
    exact ⟨by rw [evBad, H2.out]; rfl, Below.refl _ _⟩
  · have h2 : decide (x < 0) = false := by simpa using h1
    have H2 := Aside0.mk h2
    clear h1
    go_enter Try.func39, Try.ntmps39
    go_wp2
    repeat (go_quiet (fail); try go_wp2)
    go_ret
    exact ⟨by rw [evBad, H2.out, Bool.false_or]; rfl, Below.refl _ _⟩
theorem read1_pred (ev : Int) (b : Nat) (w : World) (hc : w.cell? ⟨b, 0, none⟩ = some (.int .i64 ev)) : PredW 39 #[.pointer (some ⟨b, 0, none⟩)] (Value.int .i64) (fun _ => True) (evBad ev) w :=
  fun _ x hb _ => read1_calls x ev b _ (pw_cell_below hb hc)

def readVal (ev st : Int) (l : List (List Int)) (xs : List Int) : Int × Int × Int :=
  if specOk ev st l = false then (0, 0, 11) else if xs.length > 4096 then (0, 0, 3) else if xs.any (evBad ev) then (0, 0, 2) else ((readFrom l st 0 xs).1, ((readFrom l st 0 xs).2 : Int), 0)

set_option maxHeartbeats 1000000 in
theorem read_bad (ev st : Int) (A : Option Addr) (c : Nat) (l : List (List Int)) (A1 : Option Addr) (c1 : Nat) (xs : List Int) (w : World) (hr : Kd.C (Kd.slice 3 (Kd.int .i64)) w A l.length l) (h : specOk ev st l = false) :
    Calls Try.prog 14 #[.agg #[.int .i64 ev, .int .i64 st, .slice A l.length c], .slice A1 xs.length c1] w fun e w' => e = .returned (.tuple #[.int .i64 0, .int .i64 0, .int .i64 11]) ∧ Below w.heap.size w w' := by
  have HC := fun W (hW : Below w.heap.size w W) => check_calls ev st A c l W (Kd.C_below hr hW)
  rw [show checkVal ev st l = 11 from by simp [checkVal, h]] at HC
  have HC := Aside0.mk HC
  clear hr h
  go_enter Try.func14, Try.ntmps14
  go_wp2_with fail
  refine (HC.out _ (by repeat (first | exact Below.refl _ _ | apply below_alloc | apply pw_below_drewN | apply below_drew1))).mono ?_
  rintro e w' ⟨rfl, hb'⟩
  have HB' := Aside0.mk hb'
  clear hb' HC
  go_wp2
  go_ret3
  exact ⟨rfl, below_then (below_alloc (Below.refl _ _) _) (by simp) HB'.out⟩

set_option maxHeartbeats 1000000 in
theorem read_long (ev st : Int) (A : Option Addr) (c : Nat) (l : List (List Int)) (A1 : Option Addr) (c1 : Nat) (xs : List Int) (w : World) (hr : Kd.C (Kd.slice 3 (Kd.int .i64)) w A l.length l) (h : specOk ev st l = true) (hx : xs.length > 4096) :
    Calls Try.prog 14 #[.agg #[.int .i64 ev, .int .i64 st, .slice A l.length c], .slice A1 xs.length c1] w fun e w' => e = .returned (.tuple #[.int .i64 0, .int .i64 0, .int .i64 3]) ∧ Below w.heap.size w w' := by
  have HC := fun W (hW : Below w.heap.size w W) => check_calls ev st A c l W (Kd.C_below hr hW)
  rw [show checkVal ev st l = 0 from by simp [checkVal, h]] at HC
  have HC := Aside0.mk HC
  clear hr h
  have hx' : (4096 : Int) < (xs.length : Int) := by omega
  go_enter Try.func14, Try.ntmps14
  go_wp2_with fail
  refine (HC.out _ (by repeat (first | exact Below.refl _ _ | apply below_alloc | apply pw_below_drewN | apply below_drew1))).mono ?_
  rintro e w' ⟨rfl, hb'⟩
  have HB' := Aside0.mk hb'
  clear hb' HC
  go_wp2
  go_ret3
  exact ⟨rfl, below_then (below_alloc (Below.refl _ _) _) (by simp) HB'.out⟩

set_option maxHeartbeats 1000000 in
theorem read_arg (ev st : Int) (A : Option Addr) (c : Nat) (l : List (List Int)) (A1 : Option Addr) (c1 : Nat) (xs : List Int) (w : World) (hr : Kd.C (Kd.slice 3 (Kd.int .i64)) w A l.length l) (hr1 : Kd.C (Kd.int .i64) w A1 xs.length xs) (h : specOk ev st l = true) (hx : ¬ xs.length > 4096) (he : xs.any (evBad ev) = true) :
    Calls Try.prog 14 #[.agg #[.int .i64 ev, .int .i64 st, .slice A l.length c], .slice A1 xs.length c1] w fun e w' => e = .returned (.tuple #[.int .i64 0, .int .i64 0, .int .i64 2]) ∧ Below w.heap.size w w' := by
  have HC := fun W (hW : Below w.heap.size w W) => check_calls ev st A c l W (Kd.C_below hr hW)
  rw [show checkVal ev st l = 0 from by simp [checkVal, h]] at HC
  have HC := Aside0.mk HC
  have HF := fun W (hW : Below w.heap.size w W) (hn : W.cell? ⟨w.heap.size, 0, none⟩ = some (.int .i64 ev)) => containsFunc_calls A1 c1 xs 39 #[.pointer (some ⟨w.heap.size, 0, none⟩)] (fun _ => True) _ W (Kd.C_below hr1 hW) (fun _ _ => trivial) (read1_pred _ _ _ hn) (fun _ _ => rfl)
  rw [he] at HF
  have HF := Aside0.mk HF
  have hmf := run_mkfun
  clear hr h he hr1
  have hx' : ¬ (4096 : Int) < (xs.length : Int) := by omega
  go_enter Try.func14, Try.ntmps14
  go_wp2_with fail
  refine (HC.out _ (by repeat (first | exact Below.refl _ _ | apply below_alloc | apply pw_below_drewN | apply below_drew1))).mono ?_
  rintro e w' ⟨rfl, hb'⟩
  have HB' := Aside0.mk (below_then (below_alloc (Below.refl _ _) _) (by simp) hb')
  have HX := Aside0.mk (blk_below (blk_new _ _) hb')
  clear hb' HC
  go_wp2_with fail
  refine (HF.out _ HB'.out ((blk_cell HX.out 0).trans rfl)).mono ?_
  rintro e w'' ⟨rfl, hb'⟩
  have HB'' := Aside0.mk (below_then HB'.out (HB'.out).size hb')
  clear hb' HF HX
  go_wp2
  go_ret3
  exact ⟨rfl, HB''.out⟩

theorem readFrom_end (l : List (List Int)) (q : Int) (k : Nat) (xs : List Int) (h : ¬ k < xs.length) : readFrom l q k (xs.drop k) = (q, k) := by
  rw [List.drop_eq_nil_of_le (by omega), readFrom]
theorem readFrom_step (l : List (List Int)) (q : Int) (k : Nat) (xs : List Int) (h : k < xs.length) : readFrom l q k (xs.drop k) = if stepAt l q (rd xs k) < 0 then (-1, k) else readFrom l (stepAt l q (rd xs k)) (k + 1) (xs.drop (k + 1)) := by
  have e : rd xs (k : Int) = xs[k] := by simp [rd, List.getD_eq_getElem?_getD, List.getElem?_eq_getElem h]
  rw [List.drop_eq_getElem_cons h, readFrom, e]
def ReadEnd (l : List (List Int)) (st : Int) (xs : List Int) (w : World) (e : Ending) (w' : World) : Prop := e = .returned (.tuple #[.int .i64 (readFrom l st 0 xs).1, .int .i64 ((readFrom l st 0 xs).2 : Int), .int .i64 0]) ∧ Below w.heap.size w w'

set_option maxHeartbeats 1000000 in
theorem read_go (ev st : Int) (A : Option Addr) (c : Nat) (l : List (List Int)) (A1 : Option Addr) (c1 : Nat) (xs : List Int) (w : World) (hr : Kd.C (Kd.slice 3 (Kd.int .i64)) w A l.length l) (hr1 : Kd.C (Kd.int .i64) w A1 xs.length xs) (h : specOk ev st l = true) (hx : ¬ xs.length > 4096) (he : xs.any (evBad ev) = false) :
    Calls Try.prog 14 #[.agg #[.int .i64 ev, .int .i64 st, .slice A l.length c], .slice A1 xs.length c1] w (ReadEnd l st xs w) := by
  have HC := fun W (hW : Below w.heap.size w W) => check_calls ev st A c l W (Kd.C_below hr hW)
  rw [show checkVal ev st l = 0 from by simp [checkVal, h]] at HC
  have HC := Aside0.mk HC
  have HF := fun W (hW : Below w.heap.size w W) (hn : W.cell? ⟨w.heap.size, 0, none⟩ = some (.int .i64 ev)) => containsFunc_calls A1 c1 xs 39 #[.pointer (some ⟨w.heap.size, 0, none⟩)] (fun _ => True) _ W (Kd.C_below hr1 hW) (fun _ _ => trivial) (read1_pred _ _ _ hn) (fun _ _ => rfl)
  rw [he] at HF
  have HF := Aside0.mk HF
  have hmf := run_mkfun
  obtain ⟨g0, g1, g2, g3, g4, g5⟩ := headOk_true (specOk_head h)
  have HS := Aside0.mk h
  have HE := Aside0.mk he
  have HR := Aside0.mk hr
  have HR1 := Aside0.mk hr1
  clear hr h he hr1
  have hx' : ¬ (4096 : Int) < (xs.length : Int) := by omega
  go_enter Try.func14, Try.ntmps14
  go_wp2_with fail
  refine (HC.out _ (by repeat (first | exact Below.refl _ _ | apply below_alloc | apply pw_below_drewN | apply below_drew1))).mono ?_
  rintro e w' ⟨rfl, hb'⟩
  have HB' := Aside0.mk (below_then (below_alloc (Below.refl _ _) _) (by simp) hb')
  have HX := Aside0.mk (blk_below (blk_new _ _) hb')
  clear hb' HC
  go_wp2_with fail
  refine (HF.out _ HB'.out ((blk_cell HX.out 0).trans rfl)).mono ?_
  rintro e w'' ⟨rfl, hb'⟩
  have HB'' := Aside0.mk (below_then HB'.out (HB'.out).size hb')
  have HX' := Aside0.mk (blk_below HX.out hb')
  clear hb' HF HX HB'
  have hz1 : w''.cell? ⟨w.heap.size, 1, none⟩ = some (.int .i64 st) := (blk_cell HX'.out 1).trans rfl
  go_wp2
  go_loopg [8, 26] xs.length (fun gg v8 v26 wr => ∃ (kk : Nat) (q : Int), kk ≤ xs.length ∧ xs.length - kk ≤ gg ∧ v26 = .int .i64 kk ∧ v8 = .int .i64 q ∧ 0 ≤ q ∧ q < (l.length : Int) ∧ Aside0 (Below w.heap.size w wr) ∧ Aside0 (wr.heap[w.heap.size]? = some (.cells #[.int .i64 ev, .int .i64 st, .slice A l.length c] 24 (0, 0))) ∧ Aside0 (readFrom l st 0 xs = readFrom l q kk (xs.drop kk)))
  case atStart => exact ⟨0, st, Nat.zero_le _, by omega, rfl, rfl, by omega, by omega, HB'', HX', ⟨rfl⟩⟩
  case round =>
    clear HX' HB''
    obtain ⟨kk, q, hkk, hg, rfl, rfl, hq0, hq1, BW, HX, HA⟩ := hrel
    by_cases hlt : kk < xs.length
    · have hltz : (kk : Int) < (xs.length : Int) := by omega
      obtain ⟨ad, e0, hx0⟩ := Kd.at_int (Kd.C_below HR1.out BW.out) (kk : Int) (by omega) hltz
      cases e0
      rw [Int.toNat_natCast] at hx0
      have hxr : 0 ≤ rd xs kk ∧ rd xs kk < ev := by
        have h2 := List.any_eq_false.1 HE.out (rd xs kk) (rd_mem hlt)
        simp only [evBad, Bool.or_eq_true, decide_eq_true_eq] at h2
        omega
      obtain ⟨ad2, A0, c0, e0, hx2, hl0, hr0⟩ := Q.at_L1 (Kd.C_below HR.out BW.out) q hq0 hq1
      cases e0
      have hlen := (specOk_row HS.out hq0 hq1).1
      have hsr := stepAt_range HS.out hq0 hq1 hxr.1 hxr.2
      have HST := Aside0.mk (readFrom_step l q kk xs hlt)
      rw [← HA.out] at HST
      clear HA
      generalize hx1 : rd xs (kk : Int) = x at hx0 hxr HST hsr
      obtain ⟨hxr0, hxr1⟩ := hxr
      obtain ⟨ad3, e0, hx3⟩ := Kd.at_int hr0 x hxr0 (by omega)
      cases e0
      unfold stepAt at HST hsr
      clear hx1 hr0
      generalize hy : Q.rd_L1 l q = y at hx2 hx3 hlen hl0 HST hsr
      generalize rd y x = q1 at hx3 HST hsr
      have hxy : x < (y.length : Int) := by omega
      have hz0 : wr.cell? ⟨w.heap.size, 2, none⟩ = some (.slice (some ad2) l.length c) := (blk_cell HX.out 2).trans rfl
      clear hy hlen
      by_cases hneg : q1 < 0
      · rw [if_pos hneg] at HST
        have hn2 : decide (q1 < 0) = true := by simpa using hneg
        go_wp2
        go_ret3
        refine ⟨?_, BW.out⟩
        rw [HST.out]; rfl
      · rw [if_neg hneg] at HST
        have hn2 : decide (q1 < 0) = false := by simpa using hneg
        go_wp2
        go_roundg (xs.length - (kk + 1))
        case measure => omega
        case rel => exact ⟨kk + 1, q1, by omega, by omega, by go_num, rfl, by omega, by omega, BW, HX, HST⟩
    · have hltz : ¬ (kk : Int) < (xs.length : Int) := by omega
      have HST := Aside0.mk (HA.out.trans (readFrom_end l q kk xs hlt))
      have hke : kk = xs.length := by omega
      have HK := Aside0.mk hke
      clear hke HA
      go_wp2
      go_ret3
      refine ⟨?_, BW.out⟩
      rw [HST.out, HK.out]; rfl
end Go.Proofs.Ytmphigeefppfpaa.H
