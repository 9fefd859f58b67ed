/- What schemeReach_calls, handed_and_shaped, own, laidOut, laid7, mx_of_shaped, arg_scheme needs, out of my texts, by a program (slim.py). -/
import Derived.Test.YthflpbgloeimfaaGreatDoorSR1
namespace Go.Proofs.YthflpbgloeimfaaGreatDoor.H
open Go.RowKit Go.Proofs.YthflpbgloeimfaaGreatDoorW.PrintWords Go.Proofs.YthflpbgloeimfaaGreatDoorW.PrintLast Go.Proofs.YthflpbgloeimfaaGreatDoorW.PrintMore
open Go.Proofs.YthflpbgloeimfaaGreatDoor.Q (S47 k47 rd_T47 z47 at_T47 S50 k50 rd_T50 z50 at_T50 S52 k52 S71 k71 rd_T71 at_T71)
set_option linter.unusedVariables false
theorem results_row_tmp {P : Program} {fn : Func} {p u : Tmp} {ty : TypeId} (h : fn.results = #[.cell p ty, .tmp u]) (tmps : Array Value) (w : World) (g : Nat) (t : TypeId) (cs : Array Value) (fr : Nat × Nat) (d : TypeDesc)
    (hp : tmps.getD p undef = .pointer (some ⟨g, 0, none⟩)) (hg : w.heap[g]? = some (.cells cs t fr))
    (hu : P.underlying ty = some d) (hd : (match d with | .struct _ | .array _ _ => true | _ => false) = true) (hi : (P.info? ty).map (·.size) = some cs.size) :
    (results fn tmps).run P w = .ok (.tuple #[.agg cs, tmps.getD u undef]) w := by
  rw [results_cell_tmp h, hp]
  simp only [asAddr, Sem.run_pure, Result.andThen_ok, run_loadVar_row w g t ty cs fr d hg hu hd hi]
theorem made_rep (z : Value) (n : Nat) : madeCells #[z] n = Array.replicate n z := by
  apply Array.ext
  · simp [madeCells]
  · intro i h1 h2
    simp [madeCells, Nat.mod_one]
theorem mk47 (n : Nat) (hn : n ≤ 1000) (W : World) : (Instr.makeSlice 43 (.int .i64 (n : Int)) (.int .i64 (n : Int))).run Tryz.prog W = .ok (.slice (some ⟨W.heap.size, 0, none⟩) n n) (W.alloc (.cells (madeCells #[.slice none 0 0] n) 47)) := by
  obtain ⟨i, hi, hzz⟩ := Option.map_eq_some_iff.1 Q.info47
  simp only [Prod.mk.injEq] at hzz
  obtain ⟨hz, hs, hb⟩ := hzz
  have hr := run_make (P := Tryz.prog) W 43 47 i (.agg #[.slice none 0 0]) Tryz.underlying43 hi hz .i64 .i64 n n (by omega) (Int.le_refl _) (by rw [hb]; omega) (by omega)
  simp only [Int.toNat_natCast, hs, Nat.mul_one] at hr
  exact hr
theorem C_nil47 (w : World) : Kd.C k47 w none 0 [] := ⟨rfl, by simp, fun h => absurd h (by simp)⟩
theorem C_made {W : World} {g off n m : Nat} (hn : off + n ≤ m) (hm : m ≤ 1000) (hg : W.heap[g]? = some (.cells (madeCells #[.slice none 0 0] m) 47 (0, 0))) : Kd.C k47 W (some ⟨g, off, none⟩) n (List.replicate n ⟨[]⟩) := by
  refine ⟨List.length_replicate, by omega, fun _ => ⟨_, rfl, fun j p hj => ?_⟩⟩
  obtain ⟨hjl, hjp⟩ := List.getElem?_eq_some_iff.1 hj
  have hjn : j < n := by simpa using hjl
  rw [List.getElem_replicate] at hjp
  subst hjp
  refine ⟨[.slice none 0 0], rfl, Q.k47_mk _ ⟨[]⟩ (A0 := none) (c0 := 0) (Nat.le_refl _) (C_nil47 _), fun i u hu => ?_⟩
  have hi : i = 0 := by
    have := (List.getElem?_eq_some_iff.1 hu).1
    simpa using this
  subst hi
  obtain rfl : Value.slice none 0 0 = u := by simpa using hu
  have h1 := blk_cell hg (off + j)
  have e : (Addr.add ⟨g, off, none⟩ (j * k47.sz + 0)) = ⟨g, off + j, none⟩ := by
    rw [show k47.sz = 1 from rfl, Nat.mul_one, Nat.add_zero]
    unfold Addr.add
    split
    · rename_i h; subst h; rfl
    · rfl
  rw [e, h1, made_rep, Array.getElem?_eq_getElem (by rw [Array.size_replicate]; omega), Array.getElem_replicate]
def headV (sy : List S71) (fu pa : List S47) (k n : Int) : Option (List S47) :=
  if n < 0 then none
  else if k = 0 then (if n < (pa.length : Int) then some (rd_T47 pa n).f0 else none)
  else if k = 1 then (if n < (fu.length : Int) then some (rd_T47 fu n).f0 else none)
  else if k = 2 then (if n < (sy.length : Int) then some (List.replicate (rd_T71 sy n).f1.toNat ⟨[]⟩) else none)
  else none
def SX (w0 w W : World) (A : Option Addr) (s : List S47) : Prop :=
  Kd.C k47 w0 A s.length s ∨ ∃ g off m : Nat, A = some ⟨g, off, none⟩ ∧ s = List.replicate s.length ⟨[]⟩ ∧ off + s.length ≤ m ∧ m ≤ 1000 ∧ w.heap.size ≤ g ∧ W.heap[g]? = some (.cells (madeCells #[.slice none 0 0] m) 47 (0, 0))
theorem SX.below {w0 w W W1 : World} {A : Option Addr} {s : List S47} (h : SX w0 w W A s) (hb : Below W.heap.size W W1) : SX w0 w W1 A s := by
  rcases h with h | ⟨g, off, m, h1, h2, h3, h4, h5, h6⟩
  · exact .inl h
  · exact .inr ⟨g, off, m, h1, h2, h3, h4, h5, blk_below h6 hb⟩
theorem SX.far {w0 w W : World} {A : Option Addr} {s : List S47} (h : SX w0 w W A s) {p : Addr} (hp : p.block < w.heap.size) (u : Value) : SX w0 w (W.setCell p u) A s := by
  rcases h with h | ⟨g, off, m, h1, h2, h3, h4, h5, h6⟩
  · exact .inl h
  · exact .inr ⟨g, off, m, h1, h2, h3, h4, h5, blk_far h6 (by omega) u⟩
theorem SX.lower {w0 w w1 W : World} {A : Option Addr} {s : List S47} (h : SX w0 w W A s) (hw : w1.heap.size ≤ w.heap.size) : SX w0 w1 W A s := by
  rcases h with h | ⟨g, off, m, h1, h2, h3, h4, h5, h6⟩
  · exact .inl h
  · exact .inr ⟨g, off, m, h1, h2, h3, h4, by omega, h6⟩
def SrtE (w0 : World) (v : Option (List S47)) (w : World) (E : Ending) (w' : World) : Prop :=
  Below w.heap.size w w' ∧ (v = none ∧ E = .returned (.tuple #[.agg #[.slice none 0 0], .bool false]) ∨ ∃ (s : List S47) (A : Option Addr) (c : Nat), v = some s ∧ E = .returned (.tuple #[.agg #[.slice A s.length c], .bool true]) ∧ s.length ≤ c ∧ SX w0 w w' A s)
theorem blk_at3 (w : World) (o o' o2 : Obj) : (((w.alloc o).alloc o').alloc o2).heap[w.heap.size + 2]? = some o2 := by
  have h := blk_new ((w.alloc o).alloc o') o2
  rwa [show ((w.alloc o).alloc o').heap.size = w.heap.size + 2 from by simp] at h
theorem SX.C {w0 w W : World} {A : Option Addr} {s : List S47} (h : SX w0 w W A s) (hb : Below w0.heap.size w0 W) : Kd.C k47 W A s.length s := by
  rcases h with h | ⟨g, off, m, rfl, h2, h3, h4, h5, h6⟩
  · exact Kd.C_below h hb
  · rw [h2, List.length_replicate]
    exact C_made h3 h4 h6
theorem SX.drop {w0 w W : World} {A : Option Addr} {s : List S47} (h : SX w0 w W A s) {m c : Nat} (hm : m ≤ s.length) (hc : s.length ≤ c) : SX w0 w W (if c = m then A else A.map (·.add m)) (s.drop m) := by
  rcases h with h | ⟨g, off, k, rfl, h2, h3, h4, h5, h6⟩
  · refine .inl ?_
    have := Kd.C_drop (k := k47) (c := c) h hm hc
    rwa [show m * k47.sz = m from by rw [show k47.sz = 1 from rfl, Nat.mul_one]] at this
  · refine .inr ?_
    have e : s.drop m = List.replicate (s.drop m).length ⟨[]⟩ := by
      rw [List.length_drop]
      conv => lhs; rw [h2]
      rw [List.drop_replicate]
    by_cases hcm : c = m
    · rw [if_pos hcm]
      exact ⟨g, off, k, rfl, e, by rw [List.length_drop]; omega, h4, h5, h6⟩
    · rw [if_neg hcm]
      refine ⟨g, off + m, k, ?_, e, by rw [List.length_drop]; omega, h4, h5, h6⟩
      simp only [Option.map_some]
      congr 1
      unfold Addr.add
      split
      · rename_i h; subst h; rfl
      · rfl
structure PB3 (w W : World) (s1 s2 s3 x y z r : Value) : Prop where
  hb : Below w.heap.size w W
  h0 : W.heap[w.heap.size]? = some (.cells #[s1, s2, s3] 45 (0, 0))
  h1 : W.heap[w.heap.size + 1]? = some (.cells #[x, y, z] 50 (0, 0))
  h2 : W.heap[w.heap.size + 2]? = some (.cells #[r] 47 (0, 0))
theorem PB3.start (w : World) (s1 s2 s3 x y z r : Value) : PB3 w (((w.alloc (.cells #[s1, s2, s3] 45)).alloc (.cells #[x, y, z] 50)).alloc (.cells #[r] 47)) s1 s2 s3 x y z r :=
  ⟨below_alloc (below_alloc (below_alloc (Below.refl _ _) _) _) _, blk_alloc (blk_alloc (blk_new w _) _) _, blk_alloc (blk_at2 w _ _) _, blk_at3 w _ _ _⟩
theorem PB3.below {w W W1 : World} {s1 s2 s3 x y z r : Value} (h : PB3 w W s1 s2 s3 x y z r) (hb : Below W.heap.size W W1) : PB3 w W1 s1 s2 s3 x y z r :=
  ⟨below_then h.hb h.hb.size hb, blk_below h.h0 hb, blk_below h.h1 hb, blk_below h.h2 hb⟩
theorem PB3.set {w W : World} {s1 s2 s3 x y z r : Value} (h : PB3 w W s1 s2 s3 x y z r) (u : Value) : PB3 w (W.setCell ⟨w.heap.size + 2, 0, none⟩ u) s1 s2 s3 x y z u :=
  ⟨h.hb.setCell (p := ⟨w.heap.size + 2, 0, none⟩) (by show w.heap.size ≤ w.heap.size + 2; omega) _, blk_far h.h0 (by show w.heap.size ≠ w.heap.size + 2; omega) _, blk_far h.h1 (by show w.heap.size + 1 ≠ w.heap.size + 2; omega) _, blk_set h.h2 0 u⟩
theorem PB3.cells {w W : World} {s1 s2 s3 x y z r : Value} (h : PB3 w W s1 s2 s3 x y z r) : (W.cell? ⟨w.heap.size, 0, none⟩ = some s1 ∧ W.cell? ⟨w.heap.size, 1, none⟩ = some s2 ∧ W.cell? ⟨w.heap.size, 2, none⟩ = some s3) ∧ (W.cell? ⟨w.heap.size + 1, 0, none⟩ = some x ∧ W.cell? ⟨w.heap.size + 1, 1, none⟩ = some y ∧ W.cell? ⟨w.heap.size + 1, 2, none⟩ = some z) ∧ W.cell? ⟨w.heap.size + 2, 0, none⟩ = some r ∧ W.frozen? ⟨w.heap.size + 2, 0, none⟩ = false :=
  ⟨⟨(blk_cell h.h0 0).trans rfl, (blk_cell h.h0 1).trans rfl, (blk_cell h.h0 2).trans rfl⟩, ⟨(blk_cell h.h1 0).trans rfl, (blk_cell h.h1 1).trans rfl, (blk_cell h.h1 2).trans rfl⟩, (blk_cell h.h2 0).trans rfl, blk_frozen h.h2 0⟩
set_option maxHeartbeats 8000000 in
set_option maxRecDepth 100000 in
theorem head_calls (sy : List S71) (fu pa : List S47) (t : S50) (A1 A2 A3 A : Option Addr) (c1 c2 c3 c : Nat) (w0 w : World) (h1 : Kd.C k71 w0 A1 sy.length sy) (h2 : Kd.C k47 w0 A2 fu.length fu) (h3 : Kd.C k47 w0 A3 pa.length pa) (hB : Below w0.heap.size w0 w)
    (hrk : ∀ x ∈ sy, 0 ≤ x.f1 ∧ x.f1 ≤ 8) :
    Calls Tryz.prog 116 #[.agg #[.slice A1 sy.length c1, .slice A2 fu.length c2, .slice A3 pa.length c3], .agg #[.int .i64 t.f0, .int .i64 t.f1, .slice A t.f2.length c]] w (SrtE w0 (headV sy fu pa t.f0 t.f1) w) := by
  obtain ⟨k, n, l⟩ := t
  have H1 := Aside0.mk h1
  have H2 := Aside0.mk h2
  have H3 := Aside0.mk h3
  have HRK := Aside0.mk hrk
  have HP := Aside0.mk (PB3.start w (.slice A1 sy.length c1) (.slice A2 fu.length c2) (.slice A3 pa.length c3) (.int .i64 k) (.int .i64 n) (.slice A l.length c) (.slice none 0 0))
  have HB0 := Aside0.mk (below_then hB hB.size (HP.out).hb)
  clear h1 h2 h3 hrk hB
  have HNO := Aside0.mk (fun (W : World) (E : Ending) (hv : headV sy fu pa k n = none) (hE : E = .returned (.tuple #[.agg #[.slice none 0 0], .bool false])) (hb : Below w.heap.size w W) => (show SrtE w0 (headV sy fu pa k n) w E W from ⟨hb, .inl ⟨hv, hE⟩⟩))
  show Calls Tryz.prog 116 #[.agg #[.slice A1 sy.length c1, .slice A2 fu.length c2, .slice A3 pa.length c3], .agg #[.int .i64 k, .int .i64 n, .slice A l.length c]] w (SrtE w0 (headV sy fu pa k n) w)
  go_enter Tryz.func116, Tryz.ntmps116
  go_upto_region 1 with (fail)
  generalize ((w.alloc (.cells #[.slice A1 sy.length c1, .slice A2 fu.length c2, .slice A3 pa.length c3] 45)).alloc (.cells #[.int .i64 k, .int .i64 n, .slice A l.length c] 50)).alloc (.cells #[.slice none 0 0] 47) = W1 at *
  obtain ⟨⟨p0, p1, p2⟩, ⟨q0, q1, q2⟩, r0, r1⟩ := (HP.out).cells
  by_cases hn : n < 0
  · have HV := Aside0.mk (show headV sy fu pa k n = none from if_pos hn)
    have HP2 := Aside0.mk ((HP.out).set (.slice none 0 0))
    go_wp2
    refine bodyPost_ret (results_row_tmp rfl _ _ (w.heap.size + 2) 47 #[.slice none 0 0] (0, 0) _ rfl (HP2.out).h2 Tryz.underlying47 rfl (by kernel_rfl)) rfl ?_
    exact HNO.out _ _ HV.out rfl (HP2.out).hb
  have hV0 : headV sy fu pa k n = if k = 0 then (if n < (pa.length : Int) then some (rd_T47 pa n).f0 else none) else if k = 1 then (if n < (fu.length : Int) then some (rd_T47 fu n).f0 else none) else if k = 2 then (if n < (sy.length : Int) then some (List.replicate (rd_T71 sy n).f1.toNat ⟨[]⟩) else none) else none := if_neg hn
  have HV0 := Aside0.mk hV0
  clear hV0
  by_cases hk0 : k = 0
  · by_cases hl : n < (pa.length : Int)
    · obtain ⟨ad, A0, c0, e, hx0, hl0, hC0⟩ := at_T47 (H3.out) n (by omega) hl
      subst e
      replace hx0 := ((HB0.out).cell (World.block_lt_of_cell? w0 _ hx0)).trans hx0
      have HV := Aside0.mk (show headV sy fu pa k n = some (rd_T47 pa n).f0 by rw [HV0.out, if_pos hk0, if_pos hl])
      have HL := Aside0.mk hl0
      have HC := Aside0.mk hC0
      generalize (rd_T47 pa n).f0 = s at *
      have HP2 := Aside0.mk ((HP.out).set (.slice A0 s.length c0))
      have hnn : 0 ≤ n := by omega
      subst hk0
      clear hl0 hC0 hn
      go_wp2
      refine bodyPost_ret (results_row_tmp rfl _ _ (w.heap.size + 2) 47 #[.slice A0 s.length c0] (0, 0) _ rfl (HP2.out).h2 Tryz.underlying47 rfl (by kernel_rfl)) rfl ?_
      exact ⟨(HP2.out).hb, .inr ⟨s, A0, c0, HV.out, rfl, HL.out, .inl HC.out⟩⟩
    · have HV := Aside0.mk (show headV sy fu pa k n = none by rw [HV0.out, if_pos hk0, if_neg hl])
      have HP2 := Aside0.mk ((HP.out).set (.slice none 0 0))
      subst hk0
      go_wp2
      refine bodyPost_ret (results_row_tmp rfl _ _ (w.heap.size + 2) 47 #[.slice none 0 0] (0, 0) _ rfl (HP2.out).h2 Tryz.underlying47 rfl (by kernel_rfl)) rfl ?_
      exact HNO.out _ _ HV.out rfl (HP2.out).hb
  by_cases hk1 : k = 1
  · by_cases hl : n < (fu.length : Int)
    · obtain ⟨ad, A0, c0, e, hx0, hl0, hC0⟩ := at_T47 (H2.out) n (by omega) hl
      subst e
      replace hx0 := ((HB0.out).cell (World.block_lt_of_cell? w0 _ hx0)).trans hx0
      have HV := Aside0.mk (show headV sy fu pa k n = some (rd_T47 fu n).f0 by rw [HV0.out, if_neg hk0, if_pos hk1, if_pos hl])
      have HL := Aside0.mk hl0
      have HC := Aside0.mk hC0
      generalize (rd_T47 fu n).f0 = s at *
      have HP2 := Aside0.mk ((HP.out).set (.slice A0 s.length c0))
      have hnn : 0 ≤ n := by omega
      subst hk1
      clear hl0 hC0 hn hk0
      go_wp2
      refine bodyPost_ret (results_row_tmp rfl _ _ (w.heap.size + 2) 47 #[.slice A0 s.length c0] (0, 0) _ rfl (HP2.out).h2 Tryz.underlying47 rfl (by kernel_rfl)) rfl ?_
      exact ⟨(HP2.out).hb, .inr ⟨s, A0, c0, HV.out, rfl, HL.out, .inl HC.out⟩⟩
    · have HV := Aside0.mk (show headV sy fu pa k n = none by rw [HV0.out, if_neg hk0, if_pos hk1, if_neg hl])
      have HP2 := Aside0.mk ((HP.out).set (.slice none 0 0))
      subst hk1
      clear hk0
      go_wp2
      refine bodyPost_ret (results_row_tmp rfl _ _ (w.heap.size + 2) 47 #[.slice none 0 0] (0, 0) _ rfl (HP2.out).h2 Tryz.underlying47 rfl (by kernel_rfl)) rfl ?_
      exact HNO.out _ _ HV.out rfl (HP2.out).hb
  by_cases hk2 : k = 2
  · by_cases hl : n < (sy.length : Int)
    · obtain ⟨ad, e, hx0, hx1⟩ := at_T71 (H1.out) n (by omega) hl
      subst e
      replace hx1 := ((HB0.out).cell (World.block_lt_of_cell? w0 _ hx1)).trans hx1
      have HV := Aside0.mk (show headV sy fu pa k n = some (List.replicate (rd_T71 sy n).f1.toNat ⟨[]⟩) by rw [HV0.out, if_neg hk0, if_neg hk1, if_pos hk2, if_pos hl])
      have hr := HRK.out (rd_T71 sy n) (by
        obtain ⟨j, rfl⟩ := Int.eq_ofNat_of_zero_le (show 0 ≤ n by omega)
        rw [rdY_at (by omega)]
        exact List.getElem_mem _)
      generalize (rd_T71 sy n).f1 = rk at *
      obtain ⟨m, rfl⟩ := Int.eq_ofNat_of_zero_le hr.1
      rw [Int.toNat_natCast] at HV
      have HM := Aside0.mk (show m ≤ 1000 by omega)
      have hmk := mk47 m HM.out
      have HP2 := Aside0.mk ((HP.out).below (below_alloc (Below.refl _ _) (.cells (madeCells #[.slice none 0 0] m) 47)))
      have HP3 := Aside0.mk ((HP2.out).set (.slice (some ⟨W1.heap.size, 0, none⟩) m m))
      have HC := Aside0.mk (blk_new W1 (.cells (madeCells #[.slice none 0 0] m) 47))
      have HSZ := Aside0.mk (show w.heap.size + 2 < W1.heap.size from blk_lt (HP.out).h2)
      obtain ⟨_, _, r3, r4⟩ := (HP2.out).cells
      have hnn : 0 ≤ n := by omega
      subst hk2
      clear hr hx0 hn hk0 hk1
      go_wp2
      refine bodyPost_ret (results_row_tmp rfl _ _ (w.heap.size + 2) 47 #[.slice (some ⟨W1.heap.size, 0, none⟩) m m] (0, 0) _ rfl (HP3.out).h2 Tryz.underlying47 rfl (by kernel_rfl)) rfl ?_
      refine ⟨(HP3.out).hb, .inr ⟨List.replicate m ⟨[]⟩, some ⟨W1.heap.size, 0, none⟩, m, HV.out, by rw [List.length_replicate]; rfl, by simp, .inr ⟨W1.heap.size, 0, m, rfl, by rw [List.length_replicate], by rw [List.length_replicate]; omega, HM.out, by have := HSZ.out; omega, blk_far HC.out (by have := HSZ.out; show W1.heap.size ≠ w.heap.size + 2; omega) _⟩⟩⟩
    · have HV := Aside0.mk (show headV sy fu pa k n = none by rw [HV0.out, if_neg hk0, if_neg hk1, if_pos hk2, if_neg hl])
      have HP2 := Aside0.mk ((HP.out).set (.slice none 0 0))
      subst hk2
      clear hk0 hk1
      go_wp2
      refine bodyPost_ret (results_row_tmp rfl _ _ (w.heap.size + 2) 47 #[.slice none 0 0] (0, 0) _ rfl (HP2.out).h2 Tryz.underlying47 rfl (by kernel_rfl)) rfl ?_
      exact HNO.out _ _ HV.out rfl (HP2.out).hb
  · have HV := Aside0.mk (show headV sy fu pa k n = none by rw [HV0.out, if_neg hk0, if_neg hk1, if_neg hk2])
    have HP2 := Aside0.mk ((HP.out).set (.slice none 0 0))
    go_wp2
    refine bodyPost_ret (results_row_tmp rfl _ _ (w.heap.size + 2) 47 #[.slice none 0 0] (0, 0) _ rfl (HP2.out).h2 Tryz.underlying47 rfl (by kernel_rfl)) rfl ?_
    exact HNO.out _ _ HV.out rfl (HP2.out).hb
end Go.Proofs.YthflpbgloeimfaaGreatDoor.H
namespace Go.Proofs.YthflpbgloeimfaaGreatDoor.H
open Go.RowKit Go.Proofs.YthflpbgloeimfaaGreatDoorW.PrintWords Go.Proofs.YthflpbgloeimfaaGreatDoorW.PrintLast Go.Proofs.YthflpbgloeimfaaGreatDoorW.PrintMore
open Go.Proofs.YthflpbgloeimfaaGreatDoor.Q (S47 k47 rd_T47 z47 at_T47 S50 k50 rd_T50 z50 at_T50 S52 k52 S71 k71 rd_T71 at_T71)
set_option linter.unusedVariables false
set_option linter.unusedSimpArgs false
mutual
def ofV (sy : List S71) (fu pa : List S47) : S50 → Option (List S47)
  | ⟨k, n, l⟩ => match headV sy fu pa k n with
    | none => none
    | some s => if s.length < l.length then none else if argsV sy fu pa l s then some (s.drop l.length) else none
def argsV (sy : List S71) (fu pa : List S47) : List S50 → List S47 → Bool
  | [], _ => true
  | a :: r, s => (match ofV sy fu pa a with | none => false | some x => sE ⟨x⟩ (rd_T47 s 0)) && argsV sy fu pa r (s.drop 1)
end
def argOk (sy : List S71) (fu pa : List S47) (a : S50) (b : S47) : Bool := match ofV sy fu pa a with | none => false | some x => sE ⟨x⟩ b
theorem argsV_cons (sy : List S71) (fu pa : List S47) (a : S50) (r : List S50) (s : List S47) : argsV sy fu pa (a :: r) s = (argOk sy fu pa a (rd_T47 s 0) && argsV sy fu pa r (s.drop 1)) := by rw [argsV]; rfl
theorem rd_drop1 (s : List S47) (i : Nat) : rd_T47 (s.drop 1) (i : Int) = rd_T47 s ((i + 1 : Nat) : Int) := by
  unfold rd_T47
  rw [Int.toNat_natCast, Int.toNat_natCast]
  simp [List.getD_eq_getElem?_getD, List.getElem?_drop, Nat.add_comm]
theorem argsV_false {sy : List S71} {fu pa : List S47} : ∀ {l : List S50} {s : List S47} {i : Nat} (h : i < l.length), argOk sy fu pa l[i] (rd_T47 s (i : Int)) = false → argsV sy fu pa l s = false
  | [], s, i, h, _ => by simp at h
  | a :: r, s, 0, h, h2 => by rw [argsV_cons]; rw [show rd_T47 s 0 = rd_T47 s ((0 : Nat) : Int) from rfl]; simp only [List.getElem_cons_zero] at h2; rw [h2]; rfl
  | a :: r, s, i + 1, h, h2 => by
    have hi : i < r.length := by simpa using h
    rw [argsV_cons, argsV_false (l := r) (s := s.drop 1) (i := i) hi (by rw [rd_drop1]; simpa using h2), Bool.and_false]
theorem argsV_true {sy : List S71} {fu pa : List S47} : ∀ {l : List S50} {s : List S47}, (∀ (i : Nat) (h : i < l.length), argOk sy fu pa l[i] (rd_T47 s (i : Int)) = true) → argsV sy fu pa l s = true
  | [], s, _ => by rw [argsV]
  | a :: r, s, h => by
    rw [argsV_cons, show rd_T47 s 0 = rd_T47 s ((0 : Nat) : Int) from rfl]
    have h0 := h 0 (by simp)
    simp only [List.getElem_cons_zero] at h0
    rw [h0, Bool.true_and]
    refine argsV_true fun i hi => ?_
    rw [rd_drop1]
    have := h (i + 1) (by simpa using hi)
    simpa using this
def PV (sy : List S71) (fu pa : List S47) : Prop := (∀ x ∈ sy, 0 ≤ x.f1 ∧ x.f1 ≤ 8) ∧ (∀ s ∈ fu, sN s ≤ 60) ∧ ∀ s ∈ pa, sN s ≤ 60
theorem sNL_rep (n : Nat) : sNL (List.replicate n ⟨[]⟩) = n := by
  induction n with
  | zero => rfl
  | succ n ih => rw [List.replicate_succ, sNL, ih, sN, sNL]; omega
theorem sNL_drop (l : List S47) (j : Nat) : sNL (l.drop j) ≤ sNL l := by
  induction l generalizing j with
  | nil => simp
  | cons a r ih =>
    cases j with
    | zero => simp
    | succ j => rw [List.drop_succ_cons, sNL]; have := ih j; omega
theorem rdS_mem {l : List S47} {n : Int} (h0 : 0 ≤ n) (h1 : n < (l.length : Int)) : rd_T47 l n ∈ l := by
  obtain ⟨j, rfl⟩ := Int.eq_ofNat_of_zero_le h0
  rw [rdS_at (by omega)]
  exact List.getElem_mem _
theorem headV_N {sy : List S71} {fu pa : List S47} (h : PV sy fu pa) {k n : Int} {s : List S47} (hv : headV sy fu pa k n = some s) : sNL s < 60 := by
  have key : ∀ t : S47, sN t ≤ 60 → sNL t.f0 < 60 := fun t ht => by obtain ⟨l⟩ := t; rw [sN] at ht; simp only; omega
  unfold headV at hv
  by_cases h0 : n < 0
  · rw [if_pos h0] at hv; cases hv
  rw [if_neg h0] at hv
  by_cases h1 : k = 0
  · rw [if_pos h1] at hv
    by_cases h2 : n < (pa.length : Int)
    · rw [if_pos h2] at hv; cases hv; exact key _ (h.2.2 _ (rdS_mem (by omega) h2))
    · rw [if_neg h2] at hv; cases hv
  rw [if_neg h1] at hv
  by_cases h1 : k = 1
  · rw [if_pos h1] at hv
    by_cases h2 : n < (fu.length : Int)
    · rw [if_pos h2] at hv; cases hv; exact key _ (h.2.1 _ (rdS_mem (by omega) h2))
    · rw [if_neg h2] at hv; cases hv
  rw [if_neg h1] at hv
  by_cases h1 : k = 2
  · rw [if_pos h1] at hv
    by_cases h2 : n < (sy.length : Int)
    · rw [if_pos h2] at hv; cases hv
      rw [sNL_rep]
      have := h.1 (rd_T71 sy n) (by
        obtain ⟨j, rfl⟩ := Int.eq_ofNat_of_zero_le (show 0 ≤ n by omega)
        rw [rdY_at (by omega)]
        exact List.getElem_mem _)
      omega
    · rw [if_neg h2] at hv; cases hv
  · rw [if_neg h1] at hv; cases hv
theorem ofV_N {sy : List S71} {fu pa : List S47} (h : PV sy fu pa) {t : S50} {x : List S47} (hv : ofV sy fu pa t = some x) : sN ⟨x⟩ ≤ 60 := by
  obtain ⟨k, n, l⟩ := t
  rw [ofV] at hv
  cases e : headV sy fu pa k n with
  | none => rw [e] at hv; cases hv
  | some s =>
    rw [e] at hv
    simp only at hv
    have h1 := headV_N h e
    split at hv
    · cases hv
    · split at hv
      · cases hv
        rw [sN]
        have := sNL_drop s l.length
        omega
      · cases hv
theorem sSameV_small {a b : S47} (h : sN a ≤ 60) : sSameV a b = sE a b := by unfold sSameV; rw [decide_eq_true h, Bool.true_and]
structure PB4 (w W : World) (s1 s2 s3 x y z r : Value) (b6 : Nat) (u : Value) : Prop where
  p : PB3 w W s1 s2 s3 x y z r
  h6 : W.heap[b6]? = some (.cells #[u] 47 (0, 0))
  hlt : w.heap.size + 2 < b6
theorem PB4.below {w W W1 : World} {s1 s2 s3 x y z r u : Value} {b6 : Nat} (h : PB4 w W s1 s2 s3 x y z r b6 u) (hb : Below W.heap.size W W1) : PB4 w W1 s1 s2 s3 x y z r b6 u :=
  ⟨h.p.below hb, blk_below h.h6 hb, h.hlt⟩
set_option maxHeartbeats 8000000 in
set_option maxRecDepth 100000 in
theorem psort_calls (sy : List S71) (fu pa : List S47) (hPV : PV sy fu pa) (A1 A2 A3 : Option Addr) (c1 c2 c3 : Nat) (w0 : World) (h1 : Kd.C k71 w0 A1 sy.length sy) (h2 : Kd.C k47 w0 A2 fu.length fu) (h3 : Kd.C k47 w0 A3 pa.length pa) (N : Nat) (hN6 : N ≤ 1000000) :
    ∀ (t : S50), tN t ≤ N → ∀ (A : Option Addr) (c : Nat) (w : World), Kd.C k50 w0 A t.f2.length t.f2 → t.f2.length ≤ c → Below w0.heap.size w0 w →
    Calls Tryz.prog 78 #[.agg #[.slice A1 sy.length c1, .slice A2 fu.length c2, .slice A3 pa.length c3], .agg #[.int .i64 t.f0, .int .i64 t.f1, .slice A t.f2.length c]] w (SrtE w0 (ofV sy fu pa t) w) := by
  induction N with
  | zero => intro t h; have := tN_pos t; omega
  | succ N ih =>
    intro t hN A c w hC hc hB
    replace ih := ih (by omega)
    obtain ⟨k, n, l⟩ := t
    rw [tN] at hN
    have IH := Aside0.mk ih
    have HC := Aside0.mk hC
    have HB0 := Aside0.mk hB
    have HLEN := Aside0.mk (show l.length ≤ 1000000 from by have := tLen_le (l := l); omega)
    have HD := Aside0.mk (show tNL l ≤ N by omega)
    have HPV := Aside0.mk hPV
    have H1 := Aside0.mk h1
    have H2 := Aside0.mk h2
    have H3 := Aside0.mk h3
    have HP := Aside0.mk (PB3.start w (.slice A1 sy.length c1) (.slice A2 fu.length c2) (.slice A3 pa.length c3) (.int .i64 k) (.int .i64 n) (.slice A l.length c) (.slice none 0 0))
    have HO := Aside0.mk (show ofV sy fu pa ⟨k, n, l⟩ = match headV sy fu pa k n with | none => none | some s => if s.length < l.length then none else if argsV sy fu pa l s then some (s.drop l.length) else none from by rw [ofV])
    show Calls Tryz.prog 78 #[.agg #[.slice A1 sy.length c1, .slice A2 fu.length c2, .slice A3 pa.length c3], .agg #[.int .i64 k, .int .i64 n, .slice A l.length c]] w (SrtE w0 (ofV sy fu pa ⟨k, n, l⟩) w)
    clear hC hc hB hN ih hPV h1 h2 h3 hN6
    generalize ofV sy fu pa ⟨k, n, l⟩ = V at *
    go_enter Tryz.func78, Tryz.ntmps78
    go_upto_region 1 with (fail)
    generalize ((w.alloc (.cells #[.slice A1 sy.length c1, .slice A2 fu.length c2, .slice A3 pa.length c3] 45)).alloc (.cells #[.int .i64 k, .int .i64 n, .slice A l.length c] 50)).alloc (.cells #[.slice none 0 0] 47) = W1 at *
    obtain ⟨⟨p0, p1, p2⟩, ⟨q0, q1, q2⟩, r0, r1⟩ := (HP.out).cells
    go_wp2_with fail
    have HBB := Aside0.mk (below_then HB0.out (HB0.out).size (HP.out).hb)
    have HW1 := Aside0.mk (blk_lt (HP.out).h2)
    refine (head_calls sy fu pa ⟨k, n, l⟩ A1 A2 A3 A c1 c2 c3 c w0 W1 H1.out H2.out H3.out HBB.out (HPV.out).1).mono ?_
    rintro E w2 ⟨hb, ⟨hv, rfl⟩ | ⟨s, As, cs, hv, rfl, hl, hCs⟩⟩
    · rw [hv] at HO
      have HP2 := Aside0.mk ((HP.out).below hb)
      clear hb hv p0 p1 p2 q0 q1 q2 r0 r1 HBB
      go_upto_region 2 with (fail)
      have HP3 := Aside0.mk ((HP2.out).below (below_alloc (Below.refl _ _) (.cells #[.slice none 0 0] 47)))
      generalize w2.alloc (.cells #[.slice none 0 0] 47) = w3 at *
      obtain ⟨_, _, r0, r1⟩ := (HP3.out).cells
      have HP4 := Aside0.mk ((HP3.out).set (.slice none 0 0))
      go_wp2
      refine bodyPost_ret (results_row_tmp rfl _ _ (w.heap.size + 2) 47 #[.slice none 0 0] (0, 0) _ rfl (HP4.out).h2 Tryz.underlying47 rfl (by kernel_rfl)) rfl ?_
      exact ⟨(HP4.out).hb, .inl ⟨HO.out, rfl⟩⟩
    · rw [hv] at HO
      have HP2 := Aside0.mk ((HP.out).below hb)
      have HCs := Aside0.mk hCs
      have HLs := Aside0.mk hl
      have HSN := Aside0.mk (show s.length ≤ 60 from by have := headV_N HPV.out hv; have := sLen_le (l := s); omega)
      clear hb hv p0 p1 p2 q0 q1 q2 r0 r1 HBB hCs hl
      go_upto_region 2 with (fail)
      have HP3 := Aside0.mk (PB4.mk ((HP2.out).below (below_alloc (Below.refl _ _) (.cells #[.slice As s.length cs] 47))) (blk_new w2 (.cells #[.slice As s.length cs] 47)) (blk_lt (HP2.out).h2))
      have HCs3 := Aside0.mk (HCs.out.below (below_alloc (Below.refl w2.heap.size w2) (.cells #[.slice As s.length cs] 47)))
      clear HP2 HCs
      generalize w2.alloc (.cells #[.slice As s.length cs] 47) = w3 at *
      generalize w2.heap.size = b6 at *
      obtain ⟨⟨p0, p1, p2⟩, ⟨q0, q1, q2⟩, r0, r1⟩ := (HP3.out).p.cells
      have u0 : w3.cell? ⟨b6, 0, none⟩ = some (.slice As s.length cs) := (blk_cell (HP3.out).h6 0).trans rfl
      by_cases hlen : s.length < l.length
      · rw [if_pos hlen] at HO
        have hlz : (l.length : Int) > (s.length : Int) := by omega
        have HP4 := Aside0.mk ((HP3.out).p.set (.slice none 0 0))
        clear hlen
        go_wp2
        refine bodyPost_ret (results_row_tmp rfl _ _ (w.heap.size + 2) 47 #[.slice none 0 0] (0, 0) _ rfl (HP4.out).h2 Tryz.underlying47 rfl (by kernel_rfl)) rfl ?_
        exact ⟨(HP4.out).hb, .inl ⟨HO.out, rfl⟩⟩
      rw [if_neg hlen] at HO
      have hlz : ¬ ((l.length : Int) > (s.length : Int)) := by omega
      have HLL := Aside0.mk (show l.length ≤ s.length by omega)
      clear hlen
      go_wp2
      clear hlz p0 p1 p2 q0 q1 q2 r0 r1 u0
      go_loopg [33] l.length (fun gg v33 wi => ∃ (j : Nat), j ≤ l.length ∧ l.length - j ≤ gg ∧ v33 = .int .i64 j ∧ Aside0 (PB4 w wi (.slice A1 sy.length c1) (.slice A2 fu.length c2) (.slice A3 pa.length c3) (.int .i64 k) (.int .i64 n) (.slice A l.length c) (.slice none 0 0) b6 (.slice As s.length cs)) ∧ Aside0 (SX w0 W1 wi As s) ∧ Aside0 (∀ (i : Nat) (h : i < l.length), i < j → argOk sy fu pa l[i] (rd_T47 s (i : Int)) = true))
      case atStart => exact ⟨0, by omega, by omega, rfl, HP3, HCs3, ⟨fun i _ h => absurd h (Nat.not_lt_zero _)⟩⟩
      case round =>
        clear HP3 HCs3
        obtain ⟨j, hj, hgg, rfl, HP3, HCs3, HOK⟩ := hrel
        by_cases hlt : j < l.length
        · have hltz : (j : Int) < (l.length : Int) := by omega
          have HBr := Aside0.mk (below_then HB0.out (HB0.out).size (HP3.out).p.hb)
          obtain ⟨ad, Aa, ca, e, hx0, hx1, hx2, hla, hCa⟩ := at_T50 HC.out (j : Int) (by omega) hltz
          subst e
          rw [rdT_at hlt] at hx0 hx1 hx2 hla hCa
          rw [Int.toNat_natCast] at hx0 hx1 hx2
          replace hx0 := ((HBr.out).cell (World.block_lt_of_cell? w0 _ hx0)).trans hx0
          replace hx1 := ((HBr.out).cell (World.block_lt_of_cell? w0 _ hx1)).trans hx1
          replace hx2 := ((HBr.out).cell (World.block_lt_of_cell? w0 _ hx2)).trans hx2
          have HJ := Aside0.mk (show tN l[j] ≤ N from by have := tN_mem (List.getElem_mem hlt); have := HD.out; omega)
          have HBAD := Aside0.mk (fun h => argsV_false (sy := sy) (fu := fu) (pa := pa) (l := l) (s := s) hlt h)
          have HGOOD := Aside0.mk (show argOk sy fu pa l[j] (rd_T47 s (j : Int)) = true → ∀ (i : Nat) (h : i < l.length), i < j + 1 → argOk sy fu pa l[i] (rd_T47 s (i : Int)) = true from fun h i hi hij => by
            by_cases e : i = j
            · subst e; exact h
            · exact HOK.out i hi (by omega))
          generalize l[j] = a at *
          have HCa := Aside0.mk hCa
          have HLa := Aside0.mk hla
          clear hCa hla
          go_upto_region 7 with (fail)
          have HX5 := Aside0.mk (blk_new wr (.cells #[.int .i64 a.f0, .int .i64 a.f1, .slice Aa a.f2.length ca] 50))
          have HP5 := Aside0.mk ((HP3.out).below (below_alloc (Below.refl _ _) (.cells #[.int .i64 a.f0, .int .i64 a.f1, .slice Aa a.f2.length ca] 50)))
          have HCs5 := Aside0.mk (HCs3.out.below (below_alloc (Below.refl wr.heap.size wr) (.cells #[.int .i64 a.f0, .int .i64 a.f1, .slice Aa a.f2.length ca] 50)))
          clear HBr hx0 hx1 hx2 HP3 HCs3
          generalize (wr.alloc (.cells #[.int .i64 a.f0, .int .i64 a.f1, .slice Aa a.f2.length ca] 50)) = w5 at *
          generalize wr.heap.size = b9 at *
          have HBr5 := Aside0.mk (below_then HB0.out (HB0.out).size (HP5.out).p.hb)
          obtain ⟨⟨p0, p1, p2⟩, ⟨q0, q1, q2⟩, r0, r1⟩ := (HP5.out).p.cells
          have m0 : w5.cell? ⟨b9, 0, none⟩ = some (.int .i64 a.f0) := (blk_cell HX5.out 0).trans rfl
          have m1 : w5.cell? ⟨b9, 1, none⟩ = some (.int .i64 a.f1) := (blk_cell HX5.out 1).trans rfl
          have m2 : w5.cell? ⟨b9, 2, none⟩ = some (.slice Aa a.f2.length ca) := (blk_cell HX5.out 2).trans rfl
          go_wp2_with fail
          refine (IH.out a HJ.out Aa ca w5 HCa.out HLa.out HBr5.out).mono ?_
          rintro E w6 ⟨hb, ⟨hv, rfl⟩ | ⟨x, Ax, cx, hv, rfl, hlx, hCx⟩⟩
          · have HF := Aside0.mk (HBAD.out (by unfold argOk; rw [hv]))
            have HP6 := Aside0.mk ((HP5.out).below hb)
            clear hb hv p0 p1 p2 q0 q1 q2 r0 r1 m0 m1 m2 HBr5 HP5
            go_upto_region 8 with (fail)
            have HP7 := Aside0.mk ((HP6.out).below (below_alloc (Below.refl _ _) (.cells #[.slice none 0 0] 47)))
            generalize w6.alloc (.cells #[.slice none 0 0] 47) = w7 at *
            obtain ⟨_, _, r0, r1⟩ := (HP7.out).p.cells
            have HP8 := Aside0.mk ((HP7.out).p.set (.slice none 0 0))
            have HP9 := Aside0.mk (fun n => (HP8.out).below (pw_below_drewN (Below.refl _ _) n))
            go_quiet (fail)
            go_wp2
            refine bodyPost_ret (results_row_tmp rfl _ _ (w.heap.size + 2) 47 #[.slice none 0 0] (0, 0) _ rfl (HP9.out _).h2 Tryz.underlying47 rfl (by kernel_rfl)) rfl ?_
            exact ⟨(HP9.out _).hb, .inl ⟨by rw [HO.out, HF.out]; rfl, rfl⟩⟩
          · have HP6 := Aside0.mk ((HP5.out).below hb)
            have HCs6 := Aside0.mk (HCs5.out.below hb)
            have HCx := Aside0.mk hCx
            have HLx := Aside0.mk hlx
            have HXN := Aside0.mk (ofV_N HPV.out hv)
            have HAO := Aside0.mk (show argOk sy fu pa a (rd_T47 s (j : Int)) = sSameV ⟨x⟩ (rd_T47 s (j : Int)) from by rw [sSameV_small HXN.out]; unfold argOk; rw [hv])
            clear hb hv p0 p1 p2 q0 q1 q2 r0 r1 m0 m1 m2 HBr5 HP5 HCs5 hCx hlx
            go_upto_region 8 with (fail)
            have HX7 := Aside0.mk (blk_new w6 (.cells #[.slice Ax x.length cx] 47))
            have HP7 := Aside0.mk ((HP6.out).below (below_alloc (Below.refl _ _) (.cells #[.slice Ax x.length cx] 47)))
            have HCs7 := Aside0.mk (HCs6.out.below (below_alloc (Below.refl w6.heap.size w6) (.cells #[.slice Ax x.length cx] 47)))
            have HCx7 := Aside0.mk ((HCx.out.below (below_alloc (Below.refl w6.heap.size w6) (.cells #[.slice Ax x.length cx] 47))).C (below_then HB0.out (HB0.out).size (HP7.out).p.hb))
            clear HP6 HCs6 HCx
            generalize w6.alloc (.cells #[.slice Ax x.length cx] 47) = w7 at *
            generalize w6.heap.size = b10 at *
            have hjs : (j : Int) < (s.length : Int) := by have := HLL.out; omega
            obtain ⟨ads, A0, c0, e, hy0, hly, hCy⟩ := at_T47 (HCs7.out.C (below_then HB0.out (HB0.out).size (HP7.out).p.hb)) (j : Int) (by omega) hjs
            subst e
            rw [Int.toNat_natCast] at hy0
            have HS := Aside0.mk (fun W (hW : Below w7.heap.size w7 W) => sSame_calls ⟨x⟩ (rd_T47 s (j : Int)) Ax cx A0 c0 W (Kd.C_below HCx7.out hW) HLx.out (Kd.C_below hCy hW) hly)
            generalize rd_T47 s (j : Int) = y at *
            have m0 : w7.cell? ⟨b10, 0, none⟩ = some (.slice Ax x.length cx) := (blk_cell HX7.out 0).trans rfl
            have u0 : w7.cell? ⟨b6, 0, none⟩ = some (.slice (some ads) s.length cs) := (blk_cell (HP7.out).h6 0).trans rfl
            have HK := Aside0.mk (fun (W : World) (hW : Below w7.heap.size w7 W) => And.intro (pw_cell_below hW m0) (And.intro (pw_cell_below hW u0) (pw_cell_below hW hy0)))
            have hd := below_drew (Below.refl w7.heap.size w7)
            clear hCy hly m0 u0 hy0
            go_region_held3 (fun w' => w'.cell? ⟨b10, 0, none⟩ = some (.slice Ax x.length cx) ∧ w'.cell? ⟨b6, 0, none⟩ = some (.slice (some ads) s.length cs) ∧ w'.cell? (ads.add j) = some (.slice A0 y.f0.length c0))
              (first | exact HK.out _ hd | exact HK.out _ hb8 | fail)
              (first | ((with_reducible refine (HS.out _ hd).mono ?_); rintro E w8 ⟨rfl, hb⟩; have hb8 := below_then hd hd.size hb; clear hb) | fail)
            have hb := hb8
            clear hd hb8
            have HP8 := Aside0.mk ((HP7.out).below hb)
            have HCs8 := Aside0.mk (HCs7.out.below hb)
            clear hb HP7 HCs7 HK HS
            cases q : sSameV ⟨x⟩ y with
            | false =>
              have HF := Aside0.mk (HBAD.out (by rw [HAO.out, q]))
              clear q
              obtain ⟨_, _, r0, r1⟩ := (HP8.out).p.cells
              have HP9 := Aside0.mk ((HP8.out).p.set (.slice none 0 0))
              go_wp2
              refine bodyPost_ret (results_row_tmp rfl _ _ (w.heap.size + 2) 47 #[.slice none 0 0] (0, 0) _ rfl (HP9.out).h2 Tryz.underlying47 rfl (by kernel_rfl)) rfl ?_
              exact ⟨(HP9.out).hb, .inl ⟨by rw [HO.out, HF.out]; rfl, rfl⟩⟩
            | true =>
              have HG := Aside0.mk (HGOOD.out (by rw [HAO.out, q]))
              clear q
              go_wp2
              go_roundg (l.length - (j + 1))
              case measure => omega
              case rel => exact ⟨j + 1, by omega, by omega, by rw [wrap_succ (by omega) (by have := HLEN.out; omega)]; rfl, HP8, HCs8, HG⟩
        · have hltz : ¬ (j : Int) < (l.length : Int) := by omega
          have hje : j = l.length := by omega
          subst hje
          have HT := Aside0.mk (argsV_true (sy := sy) (fu := fu) (pa := pa) (l := l) (s := s) (fun i hi => HOK.out i hi hi))
          obtain ⟨⟨p0, p1, p2⟩, ⟨q0, q1, q2⟩, r0, r1⟩ := (HP3.out).p.cells
          have u0 : wr.cell? ⟨b6, 0, none⟩ = some (.slice As s.length cs) := (blk_cell (HP3.out).h6 0).trans rfl
          have hls : l.length ≤ s.length := HLL.out
          have hsc : s.length ≤ cs := HLs.out
          have HD1 := Aside0.mk ((HCs3.out).drop hls hsc)
          have HP4 := Aside0.mk (fun u => (HP3.out).p.set u)
          have HV := Aside0.mk (show V = some (s.drop l.length) by rw [HO.out, HT.out]; rfl)
          have HSL := Aside0.mk (show (s.drop l.length).length = s.length - l.length from List.length_drop)

          go_wp2
          · subst h
            refine bodyPost_ret (results_row_tmp rfl _ _ (w.heap.size + 2) 47 #[.slice As (s.length - l.length) 0] (0, 0) _ rfl (HP4.out _).h2 Tryz.underlying47 rfl (by kernel_rfl)) rfl ?_
            refine ⟨(HP4.out _).hb, .inr ⟨s.drop l.length, As, 0, HV.out, by rw [HSL.out]; rfl, by have := HLs.out; rw [HSL.out]; omega, ?_⟩⟩
            have h1 := HD1.out
            rw [if_pos rfl] at h1
            exact ((h1.far (p := ⟨w.heap.size + 2, 0, none⟩) HW1.out _).lower (by have := HW1.out; omega))
          · refine bodyPost_ret (results_row_tmp rfl _ _ (w.heap.size + 2) 47 #[.slice (As.map (·.add l.length)) (s.length - l.length) (cs - l.length)] (0, 0) _ rfl (HP4.out _).h2 Tryz.underlying47 rfl (by kernel_rfl)) rfl ?_
            refine ⟨(HP4.out _).hb, .inr ⟨s.drop l.length, As.map (·.add l.length), cs - l.length, HV.out, by rw [HSL.out]; rfl, by have := HLs.out; rw [HSL.out]; omega, ?_⟩⟩
            have h1 := HD1.out
            rw [if_neg h] at h1
            exact ((h1.far (p := ⟨w.heap.size + 2, 0, none⟩) HW1.out _).lower (by have := HW1.out; omega))
theorem pof_calls (sy : List S71) (fu pa : List S47) (hPV : PV sy fu pa) (A1 A2 A3 : Option Addr) (c1 c2 c3 : Nat) (w0 : World) (h1 : Kd.C k71 w0 A1 sy.length sy) (h2 : Kd.C k47 w0 A2 fu.length fu) (h3 : Kd.C k47 w0 A3 pa.length pa)
    (t : S50) (ht : tN t ≤ 1000000) (A : Option Addr) (c : Nat) (w : World) (hC : Kd.C k50 w0 A t.f2.length t.f2) (hc : t.f2.length ≤ c) (hB : Below w0.heap.size w0 w) :
    Calls Tryz.prog 43 #[.agg #[.slice A1 sy.length c1, .slice A2 fu.length c2, .slice A3 pa.length c3], .agg #[.int .i64 t.f0, .int .i64 t.f1, .slice A t.f2.length c]] w (SrtE w0 (ofV sy fu pa t) w) := by
  have HP := Aside0.mk (PB3.start w (.slice A1 sy.length c1) (.slice A2 fu.length c2) (.slice A3 pa.length c3) (.int .i64 t.f0) (.int .i64 t.f1) (.slice A t.f2.length c) (.slice none 0 0))
  have HS := Aside0.mk (fun W (hW : Below w0.heap.size w0 W) => psort_calls sy fu pa hPV A1 A2 A3 c1 c2 c3 w0 h1 h2 h3 1000000 (by omega) t ht A c W hC hc hW)
  have HB := Aside0.mk (below_then hB hB.size (HP.out).hb)
  clear hPV h1 h2 h3 ht hC hc hB
  go_enter Tryz.func43, Tryz.ntmps43
  go_upto_region 1 with (fail)
  generalize ((w.alloc (.cells #[.slice A1 sy.length c1, .slice A2 fu.length c2, .slice A3 pa.length c3] 45)).alloc (.cells #[.int .i64 t.f0, .int .i64 t.f1, .slice A t.f2.length c] 50)).alloc (.cells #[.slice none 0 0] 47) = W1 at *
  obtain ⟨⟨p0, p1, p2⟩, ⟨q0, q1, q2⟩, r0, r1⟩ := (HP.out).cells
  have HW1 := Aside0.mk (blk_lt (HP.out).h2)
  go_wp2_with fail
  refine (HS.out W1 HB.out).mono ?_
  rintro E w2 ⟨hb, ⟨hv, rfl⟩ | ⟨s, As, cs, hv, rfl, hl, hCs⟩⟩
  · have HP2 := Aside0.mk ((HP.out).below hb)
    have HV := Aside0.mk hv
    clear hb hv p0 p1 p2 q0 q1 q2 r0 r1
    obtain ⟨_, _, r0, r1⟩ := (HP2.out).cells
    have HP4 := Aside0.mk ((HP2.out).set (.slice none 0 0))
    go_wp2
    refine bodyPost_ret (results_row_tmp rfl _ _ (w.heap.size + 2) 47 #[.slice none 0 0] (0, 0) _ rfl (HP4.out).h2 Tryz.underlying47 rfl (by kernel_rfl)) rfl ?_
    exact ⟨(HP4.out).hb, .inl ⟨HV.out, rfl⟩⟩
  · have HP2 := Aside0.mk ((HP.out).below hb)
    have HV := Aside0.mk hv
    have HL := Aside0.mk hl
    have HCs := Aside0.mk hCs
    clear hb hv hl hCs p0 p1 p2 q0 q1 q2 r0 r1
    obtain ⟨_, _, r0, r1⟩ := (HP2.out).cells
    have HP4 := Aside0.mk ((HP2.out).set (.slice As s.length cs))
    go_wp2
    refine bodyPost_ret (results_row_tmp rfl _ _ (w.heap.size + 2) 47 #[.slice As s.length cs] (0, 0) _ rfl (HP4.out).h2 Tryz.underlying47 rfl (by kernel_rfl)) rfl ?_
    exact ⟨(HP4.out).hb, .inr ⟨s, As, cs, HV.out, rfl, HL.out, ((HCs.out.far (p := ⟨w.heap.size + 2, 0, none⟩) HW1.out _).lower (by have := HW1.out; omega))⟩⟩
end Go.Proofs.YthflpbgloeimfaaGreatDoor.H
namespace Go.Proofs.YthflpbgloeimfaaGreatDoor.H
open Go.RowKit Go.Proofs.YthflpbgloeimfaaGreatDoorW.PrintWords Go.Proofs.YthflpbgloeimfaaGreatDoorW.PrintLast Go.Proofs.YthflpbgloeimfaaGreatDoorW.PrintMore
open Go.Proofs.YthflpbgloeimfaaGreatDoor.Q (S47 k47 rd_T47 z47 at_T47 S50 k50 rd_T50 z50 at_T50 S52 k52 rd_T52 at_T52 S71 k71 rd_T71 at_T71)
set_option linter.unusedVariables false
set_option linter.unusedSimpArgs false
abbrev Hd := Option Addr × Nat × Nat
def encH (p : Hd) : Value := .slice p.1 p.2.1 p.2.2
def kH : Kd Hd := Kd.scalar encH (fun _ => rfl)
def zH : Hd := (none, 0, 0)
def RelS (w : World) (hs : List Hd) (xs : List S47) : Prop := hs.length = xs.length ∧ ∀ (j : Nat) (h : j < xs.length), (hs.getD j zH).2.1 = xs[j].f0.length ∧ xs[j].f0.length ≤ (hs.getD j zH).2.2 ∧ Kd.C k47 w (hs.getD j zH).1 xs[j].f0.length xs[j].f0
theorem RelS.nil (w : World) : RelS w [] [] := ⟨rfl, fun j h => absurd h (Nat.not_lt_zero _)⟩
theorem getD_app {α : Type} (l : List α) (x d : α) (q : Nat) : (l ++ [x]).getD q d = if q = l.length then x else l.getD q d := by
  by_cases h : q = l.length
  · subst h; simp
  · rw [if_neg h]
    by_cases h2 : q < l.length
    · simp [List.getD_eq_getElem?_getD, List.getElem?_append_left h2]
    · have h3 : l.length + 1 ≤ q := by omega
      simp [List.getD_eq_getElem?_getD, List.getElem?_eq_none (show (l ++ [x]).length ≤ q by simp; omega), List.getElem?_eq_none (show l.length ≤ q by omega)]
theorem RelS.snoc {w : World} {hs : List Hd} {xs : List S47} (hr : RelS w hs xs) {A : Option Addr} {c : Nat} {x : S47} (hc : x.f0.length ≤ c) (hC : Kd.C k47 w A x.f0.length x.f0) : RelS w (hs ++ [(A, x.f0.length, c)]) (xs ++ [x]) := by
  refine ⟨by rw [List.length_append, List.length_append, hr.1]; rfl, fun j hj => ?_⟩
  rw [getD_app, hr.1]
  by_cases e : j = xs.length
  · subst e
    rw [if_pos rfl]
    simp only [List.getElem_append_right (Nat.le_refl _), Nat.sub_self, List.getElem_cons_zero]
    exact ⟨trivial, hc, hC⟩
  · rw [if_neg e]
    have h2 : j < xs.length := by rw [List.length_append, List.length_singleton] at hj; omega
    simp only [List.getElem_append_left h2]
    exact hr.2 j h2
theorem C_of_heads {w W : World} {v : Value} {hs : List Hd} {xs : List S47} {base : Nat} {ok : Nat → Prop} (hR : kH.R 47 W base ok v hs) (hrel : RelS w hs xs) (hb : Below w.heap.size w W) : ∃ A c, v = .slice A xs.length c ∧ xs.length ≤ c ∧ Kd.C k47 W A xs.length xs := by
  obtain ⟨A, c, rfl, hl, hC⟩ := Kd.R_reads hR
  rw [hrel.1] at hl hC ⊢
  refine ⟨A, c, rfl, hl, rfl, hC.2.1, fun h0 => ?_⟩
  obtain ⟨ad, e, hc⟩ := hC.2.2 h0
  refine ⟨ad, e, fun j p hj => ?_⟩
  obtain ⟨hlt, hp⟩ := List.getElem?_eq_some_iff.1 hj
  have hlt2 : j < hs.length := by rw [hrel.1]; exact hlt
  have hh : hs[j]? = some (hs.getD j zH) := by rw [List.getD_eq_getElem?_getD, List.getElem?_eq_getElem hlt2]; rfl
  obtain ⟨cs, h1, h2, h3⟩ := hc j _ hh
  obtain ⟨q1, q2, q3⟩ := hrel.2 j hlt
  rw [hp] at q1 q2 q3
  refine ⟨cs, h1, ?_, h3⟩
  have h2' : cs = [encH (hs.getD j zH)] := h2
  rw [h2']
  unfold encH
  rw [q1]
  exact Q.k47_mk W p q2 (Kd.C_below q3 hb)
structure PLB (w W : World) (s1 s2 x y z u v : Value) : Prop where
  hb : Below w.heap.size w W
  h0 : W.heap[w.heap.size]? = some (.cells #[s1, s2] 25 (0, 0))
  h1 : W.heap[w.heap.size + 1]? = some (.cells #[x, y, z] 45 (0, 0))
  h2 : W.heap[w.heap.size + 2]? = some (.cells #[s1, u, v] 45 (0, 0))
theorem PLB.start (w : World) (s1 s2 x y z u v : Value) : PLB w (((w.alloc (.cells #[s1, s2] 25)).alloc (.cells #[x, y, z] 45)).alloc (.cells #[s1, u, v] 45)) s1 s2 x y z u v :=
  ⟨below_alloc (below_alloc (below_alloc (Below.refl _ _) _) _) _, blk_alloc (blk_alloc (blk_new w _) _) _, blk_alloc (blk_at2 w _ _) _, blk_at3 w _ _ _⟩
theorem PLB.below {w W W1 : World} {s1 s2 x y z u v : Value} (h : PLB w W s1 s2 x y z u v) (hb : Below W.heap.size W W1) : PLB w W1 s1 s2 x y z u v :=
  ⟨below_then h.hb h.hb.size hb, blk_below h.h0 hb, blk_below h.h1 hb, blk_below h.h2 hb⟩
theorem PLB.grown {w W W1 : World} {s1 s2 x y z u v : Value} (h : PLB w W s1 s2 x y z u v) {row : Option Nat} (hb : Below w.heap.size w W1) (hg : W.grownBy W1 row) (hne : ∀ k, row = some k → w.heap.size + 3 ≤ k) : PLB w W1 s1 s2 x y z u v :=
  ⟨hb, blk_grown h.h0 hg (fun e => by have := hne _ e.symm; omega), blk_grown h.h1 hg (fun e => by have := hne _ e.symm; omega), blk_grown h.h2 hg (fun e => by have := hne _ e.symm; omega)⟩
theorem PLB.setu {w W : World} {s1 s2 x y z u v : Value} (h : PLB w W s1 s2 x y z u v) (n : Value) : PLB w (W.setCell ⟨w.heap.size + 2, 1, none⟩ n) s1 s2 x y z n v :=
  ⟨h.hb.setCell (p := ⟨w.heap.size + 2, 1, none⟩) (by show w.heap.size ≤ w.heap.size + 2; omega) _, blk_far h.h0 (by show w.heap.size ≠ w.heap.size + 2; omega) _, blk_far h.h1 (by show w.heap.size + 1 ≠ w.heap.size + 2; omega) _, blk_set h.h2 1 n⟩
theorem PLB.out {w W : World} {s1 s2 x y z u v : Value} (h : PLB w W s1 s2 x y z u v) (a b c : Value) : (((W.setCell ⟨w.heap.size + 1, 0, none⟩ a).setCell ⟨w.heap.size + 1, 1, none⟩ b).setCell ⟨w.heap.size + 1, 2, none⟩ c).heap[w.heap.size + 1]? = some (.cells #[a, b, c] 45 (0, 0)) ∧ Below w.heap.size w (((W.setCell ⟨w.heap.size + 1, 0, none⟩ a).setCell ⟨w.heap.size + 1, 1, none⟩ b).setCell ⟨w.heap.size + 1, 2, none⟩ c) :=
  ⟨blk_set (blk_set (blk_set h.h1 0 a) 1 b) 2 c, ((h.hb.setCell (p := ⟨w.heap.size + 1, 0, none⟩) (Nat.le_succ _) _).setCell (p := ⟨w.heap.size + 1, 1, none⟩) (Nat.le_succ _) _).setCell (p := ⟨w.heap.size + 1, 2, none⟩) (Nat.le_succ _) _⟩
theorem PLB.cells {w W : World} {s1 s2 x y z u v : Value} (h : PLB w W s1 s2 x y z u v) : (W.cell? ⟨w.heap.size, 0, none⟩ = some s1 ∧ W.cell? ⟨w.heap.size, 1, none⟩ = some s2) ∧ (W.cell? ⟨w.heap.size + 2, 0, none⟩ = some s1 ∧ W.cell? ⟨w.heap.size + 2, 1, none⟩ = some u ∧ W.cell? ⟨w.heap.size + 2, 2, none⟩ = some v) ∧ W.frozen? ⟨w.heap.size + 2, 1, none⟩ = false :=
  ⟨⟨(blk_cell h.h0 0).trans rfl, (blk_cell h.h0 1).trans rfl⟩, ⟨(blk_cell h.h2 0).trans rfl, (blk_cell h.h2 1).trans rfl, (blk_cell h.h2 2).trans rfl⟩, blk_frozen h.h2 1⟩
theorem PLB.outs {w W : World} {s1 s2 x y z u v : Value} (h : PLB w W s1 s2 x y z u v) : (W.cell? ⟨w.heap.size + 1, 0, none⟩ = some x ∧ W.cell? ⟨w.heap.size + 1, 1, none⟩ = some y ∧ W.cell? ⟨w.heap.size + 1, 2, none⟩ = some z) ∧ W.frozen? ⟨w.heap.size + 1, 0, none⟩ = false ∧ W.frozen? ⟨w.heap.size + 1, 1, none⟩ = false ∧ W.frozen? ⟨w.heap.size + 1, 2, none⟩ = false :=
  ⟨⟨(blk_cell h.h1 0).trans rfl, (blk_cell h.h1 1).trans rfl, (blk_cell h.h1 2).trans rfl⟩, blk_frozen h.h1 0, blk_frozen h.h1 1, blk_frozen h.h1 2⟩
theorem rdF_at {l : List S52} {j : Nat} (h : j < l.length) : rd_T52 l (j : Int) = l[j] := by simp [rd_T52, List.getD_eq_getElem?_getD, List.getElem?_eq_getElem h]
def PlaceE (sl sp : Value) (fs : List S52) (w : World) (E : Ending) (w' : World) : Prop :=
  Below w.heap.size w w' ∧ ∃ (A : Option Addr) (c : Nat), E = .returned (.agg #[sl, .slice A fs.length c, sp]) ∧ fs.length ≤ c ∧ Kd.C k47 w' A (fs.map (·.f1)).length (fs.map (·.f1))
set_option maxHeartbeats 8000000 in
set_option maxRecDepth 100000 in
theorem place_calls (sy : List S71) (fs : List S52) (A1 A2 A3 : Option Addr) (n3 c1 c2 c3 : Nat) (w : World) (hF : Kd.C k52 w A2 fs.length fs) (hn : fs.length ≤ 100000) :
    Calls Tryz.prog 42 #[.agg #[.slice A1 sy.length c1, .slice A2 fs.length c2], .slice A3 n3 c3] w (PlaceE (.slice A1 sy.length c1) (.slice A3 n3 c3) fs w) := by
  have HF := Aside0.mk hF
  have HN := Aside0.mk hn
  have HP := Aside0.mk (PLB.start w (.slice A1 sy.length c1) (.slice A2 fs.length c2) (.slice none 0 0) (.slice none 0 0) (.slice none 0 0) (.slice none 0 0) (.slice A3 n3 c3))
  clear hF hn
  go_enter Tryz.func42, Tryz.ntmps42
  go_upto_region 2 with (fail)
  generalize ((w.alloc (.cells #[.slice A1 sy.length c1, .slice A2 fs.length c2] 25)).alloc (.cells #[.slice none 0 0, .slice none 0 0, .slice none 0 0] 45)).alloc (.cells #[.slice A1 sy.length c1, .slice none 0 0, .slice A3 n3 c3] 45) = W1 at *
  obtain ⟨⟨p0, p1⟩, ⟨q0, q1, q2⟩, f1⟩ := (HP.out).cells
  go_wp2
  clear p0 p1 q0 q1 q2 f1
  go_loopg [15] fs.length (fun gg v15 wi => ∃ (j : Nat) (A : Option Addr) (c : Nat) (hs : List Hd), j ≤ fs.length ∧ fs.length - j ≤ gg ∧ v15 = .int .i64 j ∧ Aside0 (PLB w wi (.slice A1 sy.length c1) (.slice A2 fs.length c2) (.slice none 0 0) (.slice none 0 0) (.slice none 0 0) (.slice A hs.length c) (.slice A3 n3 c3)) ∧ Aside0 (Kd.R kH 47 wi w.heap.size (fun k => w.heap.size + 3 ≤ k) (.slice A hs.length c) hs) ∧ Aside0 (RelS w hs ((fs.take j).map (·.f1))))
  case atStart => exact ⟨0, none, 0, [], by omega, by omega, rfl, HP, ⟨Kd.R_nil _ _ _ _ _⟩, ⟨RelS.nil w⟩⟩
  case round =>
    clear HP
    obtain ⟨j, A, c, hs, hj, hgg, rfl, HP, HR, HRS⟩ := hrel
    have HHL := Aside0.mk (show hs.length = j by rw [(HRS.out).1, List.length_map, List.length_take]; omega)
    by_cases hlt : j < fs.length
    · have hltz : (j : Int) < (fs.length : Int) := by omega
      obtain ⟨ad, As, cs, At, ct, e, hx0, hx1, hx2, hx3, hx4, hls, hCs, hlt4, hCt⟩ := at_T52 HF.out (j : Int) (by omega) hltz
      subst e
      rw [rdF_at hlt] at hx0 hx1 hx2 hx3 hx4 hls hCs hlt4 hCt
      rw [Int.toNat_natCast] at hx0 hx1 hx2 hx3 hx4
      replace hx0 := ((HP.out).hb.cell (World.block_lt_of_cell? w _ hx0)).trans hx0
      replace hx1 := ((HP.out).hb.cell (World.block_lt_of_cell? w _ hx1)).trans hx1
      replace hx2 := ((HP.out).hb.cell (World.block_lt_of_cell? w _ hx2)).trans hx2
      replace hx3 := ((HP.out).hb.cell (World.block_lt_of_cell? w _ hx3)).trans hx3
      replace hx4 := ((HP.out).hb.cell (World.block_lt_of_cell? w _ hx4)).trans hx4
      have HRS2 := Aside0.mk (show RelS w (hs ++ [(As, fs[j].f1.f0.length, cs)]) ((fs.take (j + 1)).map (·.f1)) from by
        rw [takeS hlt, List.map_append]
        exact RelS.snoc HRS.out hls hCs)
      clear hls hCs hlt4 hCt
      generalize fs[j] = f at *
      go_upto_region 5 with (fail)
      have HX5 := Aside0.mk (blk_new wr (.cells #[.string f.f0, .slice As f.f1.f0.length cs, .int .i64 f.f2.f0, .int .i64 f.f2.f1, .slice At f.f2.f2.length ct] 52))
      have HP5 := Aside0.mk ((HP.out).below (below_alloc (Below.refl _ _) (.cells #[.string f.f0, .slice As f.f1.f0.length cs, .int .i64 f.f2.f0, .int .i64 f.f2.f1, .slice At f.f2.f2.length ct] 52)))
      have HR5 := Aside0.mk (Kd.R_below HR.out (below_alloc (Below.refl wr.heap.size wr) (.cells #[.string f.f0, .slice As f.f1.f0.length cs, .int .i64 f.f2.f0, .int .i64 f.f2.f1, .slice At f.f2.f2.length ct] 52)))
      have HSZ := Aside0.mk (show w.heap.size + 3 ≤ wr.heap.size from by have := blk_lt (HP.out).h2; omega)
      clear hx0 hx1 hx2 hx3 hx4 HP HR
      generalize (wr.alloc (.cells #[.string f.f0, .slice As f.f1.f0.length cs, .int .i64 f.f2.f0, .int .i64 f.f2.f1, .slice At f.f2.f2.length ct] 52)) = w5 at *
      have HSZ5 := Aside0.mk (show w.heap.size + 3 ≤ w5.heap.size from by have := blk_lt (HP5.out).h2; have := blk_lt HX5.out; have := HSZ.out; omega)
      generalize wr.heap.size = b7 at *
      obtain ⟨⟨p0, p1⟩, ⟨q0, q1, q2⟩, f1⟩ := (HP5.out).cells
      have m1 : w5.cell? ⟨b7, 1, none⟩ = some (.slice As f.f1.f0.length cs) := (blk_cell HX5.out 1).trans rfl
      generalize f.f1.f0.length = n at *
      go_wp2_with ((with_reducible refine gate_builtin (b := .append) (xs := #[.tmp 20, .tmp 23]) rfl ?_); at_builtin; refine Kd.R_append kH (w0 := w) w.heap.size rfl (.tmp 20) (.tmp 23) 43 47 (.agg #[.slice none 0 0]) 24 rfl Tryz.underlying43 Q.info47 rfl (show 0 < 1 by decide) (by decide) (.slice A hs.length c) hs (As, n, cs) [.slice As n cs] (fun k => w.heap.size + 3 ≤ k) (fun _ => False) rfl rfl rfl (fun _ hk => hk.elim) (fun k hk => Nat.le_trans (HSZ5.out) hk) HR5.out (HP5.out).hb (HP5.out).hb.size (by have := HHL.out; have := HN.out; omega) ?_; intro v5 w6 ho5 hb5 hg5 hat5; (obtain ⟨A9, c9, rfl⟩ := Kd.R_slice ho5); have HP6 := Aside0.mk ((HP5.out).grown hb5 hg5 (HR5.out).1); have HR6 := Aside0.mk ho5; have f6 := (HP6.out).cells.2.2; have q6 := (HP6.out).cells.2.1.2.1; clear ho5 hb5 hg5 hat5)
      go_roundg (fs.length - (j + 1))
      case measure => omega
      case rel => exact ⟨j + 1, A9, c9, hs ++ [(As, n, cs)], by omega, by omega, by rw [wrap_succ (by omega) (by have := HN.out; omega)]; rfl, ⟨by rw [List.length_append, List.length_singleton]; exact (HP6.out).setu _⟩, ⟨by have h1 := Kd.R_far HR6.out (p := ⟨w.heap.size + 2, 1, none⟩) (fun k hk he => by have h0 : k = w.heap.size + 2 := he; omega) (Value.slice A9 (hs.length + 1) c9); rw [List.length_append, List.length_singleton] at h1; rw [List.length_append, List.length_singleton]; exact h1⟩, HRS2⟩
    · have hltz : ¬ (j : Int) < (fs.length : Int) := by omega
      have hje : j = fs.length := by omega
      subst hje
      rw [List.take_length] at HRS
      obtain ⟨⟨p0, p1⟩, ⟨q0, q1, q2⟩, f1⟩ := (HP.out).cells
      obtain ⟨⟨o0, o1, o2⟩, g0, g1, g2⟩ := (HP.out).outs
      have HO := Aside0.mk (HP.out.out (.slice A1 sy.length c1) (.slice A hs.length c) (.slice A3 n3 c3))
      have HR3 := Aside0.mk (Kd.R_far (Kd.R_far (Kd.R_far HR.out (p := ⟨w.heap.size + 1, 0, none⟩) (fun k hk he => by have h0 : k = w.heap.size + 1 := he; omega) (.slice A1 sy.length c1)) (p := ⟨w.heap.size + 1, 1, none⟩) (fun k hk he => by have h0 : k = w.heap.size + 1 := he; omega) (.slice A hs.length c)) (p := ⟨w.heap.size + 1, 2, none⟩) (fun k hk he => by have h0 : k = w.heap.size + 1 := he; omega) (.slice A3 n3 c3))
      obtain ⟨A9, c9, e9, hl9, hC9⟩ := C_of_heads HR3.out HRS.out (HO.out).2
      injection e9 with e1 e2 e3
      subst e1 e3
      have HC9 := Aside0.mk hC9
      have HL9 := Aside0.mk hl9
      rw [List.length_map] at HL9
      clear e2 hC9 hl9 HR3
      rw [HHL.out] at HO q1
      go_wp2
      refine bodyPost_ret (results_cell_row rfl _ _ (w.heap.size + 1) 45 #[.slice A1 sy.length c1, .slice A fs.length c, .slice A3 n3 c3] (0, 0) _ rfl (HO.out).1 Tryz.underlying45 rfl (by kernel_rfl)) rfl ?_
      rw [HHL.out] at HC9
      exact ⟨(HO.out).2, A, c, rfl, HL9.out, HC9.out⟩
end Go.Proofs.YthflpbgloeimfaaGreatDoor.H
namespace Go.Proofs.YthflpbgloeimfaaGreatDoor.H
open Go.RowKit Go.Proofs.YthflpbgloeimfaaGreatDoorW.PrintWords Go.Proofs.YthflpbgloeimfaaGreatDoorW.PrintLast Go.Proofs.YthflpbgloeimfaaGreatDoorW.PrintMore
open Go.Proofs.YthflpbgloeimfaaGreatDoor.Q (S47 k47 rd_T47 z47 at_T47 S50 k50 rd_T50 z50 at_T50 S52 k52 rd_T52 at_T52 z52 S71 k71 rd_T71 at_T71)
set_option linter.unusedVariables false
set_option linter.unusedSimpArgs false
def headOk (f : S52) : Bool := nameB f.f0 && srtB f.f1
def lenV : Option (List S47) → Nat
  | none => 0
  | some s => s.length
def endO (v : Option (List S47)) : Bool := v.isSome && decide (lenV v = 0)
def bodyOk (sy : List S71) (fs : List S52) (f : S52) : Bool := decide (tN f.f2 ≤ 400) && decide (tD f.f2 ≤ 30) && endO (ofV sy (fs.map (·.f1)) f.f1.f0 f.f2)
def schB (sy : List S71) (fs : List S52) : Bool :=
  symsB sy && decide (1 ≤ fs.length) && decide (fs.length ≤ 64) && decide ((rd_T52 fs 0).f1.f0.length = 0) && fs.all headOk && decide ((fs.map (·.f0)).Nodup) && fs.all (bodyOk sy fs)
def schV (sy : List S71) (fs : List S52) : Int := if schB sy fs then 0 else 7
theorem schV_bad {sy : List S71} {fs : List S52} (h : schB sy fs = false) : schV sy fs = 7 := by unfold schV; rw [h]; rfl
theorem schV_good {sy : List S71} {fs : List S52} (h : schB sy fs = true) : schV sy fs = 0 := by unfold schV; rw [h]; rfl
theorem all_bad {α : Type} {l : List α} {p : α → Bool} {x : α} (hx : x ∈ l) (h : p x = false) : l.all p = false := by
  cases e : l.all p with
  | false => rfl
  | true => rw [List.all_eq_true.1 e x hx] at h; cases h
theorem schB_syms {sy : List S71} {fs : List S52} (h : symsB sy = false) : schB sy fs = false := by unfold schB; rw [h]; rfl
theorem schB_none {sy : List S71} {fs : List S52} (h : fs.length = 0) : schB sy fs = false := by unfold schB; rw [decide_eq_false (show ¬ 1 ≤ fs.length by omega)]; simp
theorem schB_many {sy : List S71} {fs : List S52} (h : 64 < fs.length) : schB sy fs = false := by unfold schB; rw [decide_eq_false (show ¬ fs.length ≤ 64 by omega)]; simp
theorem schB_start {sy : List S71} {fs : List S52} (h : ¬ (rd_T52 fs 0).f1.f0.length = 0) : schB sy fs = false := by unfold schB; rw [decide_eq_false h]; simp
theorem schB_head {sy : List S71} {fs : List S52} {f : S52} (hf : f ∈ fs) (h : headOk f = false) : schB sy fs = false := by unfold schB; rw [all_bad hf h]; simp
theorem schB_twice {sy : List S71} {fs : List S52} {j : Nat} (h : j < fs.length) (hm : fs[j].f0 ∈ (fs.take j).map (·.f0)) : schB sy fs = false := by
  have : ¬ (fs.map (·.f0)).Nodup := by
    have h1 : j < (fs.map (·.f0)).length := by simpa using h
    refine nodup_take_bad h1 ?_
    rw [← List.map_take]
    simpa using hm
  unfold schB
  rw [decide_eq_false this]
  simp
theorem schB_body {sy : List S71} {fs : List S52} {f : S52} (hf : f ∈ fs) (h : bodyOk sy fs f = false) : schB sy fs = false := by unfold schB; rw [all_bad hf h]; simp
theorem schB_all {sy : List S71} {fs : List S52} (h1 : symsB sy = true) (h2 : ¬ fs.length = 0) (h3 : ¬ 64 < fs.length) (h4 : (rd_T52 fs 0).f1.f0.length = 0) (h5 : ∀ f ∈ fs, headOk f = true) (h6 : (fs.map (·.f0)).Nodup) (h7 : ∀ f ∈ fs, bodyOk sy fs f = true) : schB sy fs = true := by
  unfold schB
  rw [h1, decide_eq_true (show 1 ≤ fs.length by omega), decide_eq_true (show fs.length ≤ 64 by omega), decide_eq_true h4, List.all_eq_true.2 h5, decide_eq_true h6, List.all_eq_true.2 h7]
  rfl
theorem symsB_len {sy : List S71} (h : symsB sy = true) : sy.length ≤ 24 ∧ ∀ x ∈ sy, symOk x = true := by
  unfold symsB at h
  simp only [Bool.and_eq_true, decide_eq_true_eq, List.all_eq_true] at h
  exact ⟨h.2, h.1.1⟩
theorem symsB_rank {sy : List S71} (h : symsB sy = true) : ∀ x ∈ sy, 0 ≤ x.f1 ∧ x.f1 ≤ 8 := by
  intro x hx
  have := (symsB_len h).2 x hx
  unfold symOk at this
  simp only [Bool.and_eq_true, decide_eq_true_eq] at this
  omega
theorem headOk_N {f : S52} (h : headOk f = true) : sN f.f1 ≤ 60 ∧ ∀ s ∈ f.f1.f0, sN s ≤ 60 := by
  unfold headOk at h
  simp only [Bool.and_eq_true] at h
  have h1 := srtB_N h.2
  refine ⟨h1, fun s hs => ?_⟩
  obtain ⟨n, ⟨l⟩, b⟩ := f
  have h2 := sN_mem hs
  simp only at h1 h2
  rw [sN] at h1
  omega
def OfC (v : Option (List S47)) (w : World) (E : Ending) (w' : World) : Prop := ∃ (A : Option Addr) (c : Nat), E = .returned (.tuple #[.agg #[.slice A (lenV v) c], .bool v.isSome]) ∧ Below w.heap.size w w'
theorem ofC_of {w0 w : World} {v : Option (List S47)} {E : Ending} {w' : World} (h : SrtE w0 v w E w') : OfC v w E w' := by
  obtain ⟨hb, ⟨rfl, rfl⟩ | ⟨s, A, c, rfl, rfl, _, _⟩⟩ := h
  · exact ⟨none, 0, rfl, hb⟩
  · exact ⟨A, c, rfl, hb⟩
structure CB (w W : World) (s1 s2 : Value) : Prop where
  hb : Below w.heap.size w W
  h0 : W.heap[w.heap.size]? = some (.cells #[s1, s2] 25 (0, 0))
theorem CB.below {w W W1 : World} {s1 s2 : Value} (h : CB w W s1 s2) (hb : Below W.heap.size W W1) : CB w W1 s1 s2 := ⟨below_then h.hb h.hb.size hb, blk_below h.h0 hb⟩
theorem CB.cells {w W : World} {s1 s2 : Value} (h : CB w W s1 s2) : W.cell? ⟨w.heap.size, 0, none⟩ = some s1 ∧ W.cell? ⟨w.heap.size, 1, none⟩ = some s2 := ⟨(blk_cell h.h0 0).trans rfl, (blk_cell h.h0 1).trans rfl⟩
set_option maxHeartbeats 16000000 in
set_option maxRecDepth 100000 in
theorem scheme_calls (sy : List S71) (fs : List S52) (A1 A2 : Option Addr) (c1 c2 : Nat) (w : World) (hS : Kd.C k71 w A1 sy.length sy) (hF : Kd.C k52 w A2 fs.length fs) :
    Calls Tryz.prog 14 #[.agg #[.slice A1 sy.length c1, .slice A2 fs.length c2]] w fun E w' => E = .returned (.int .i64 (schV sy fs)) ∧ Below w.heap.size w w' := by
  have hmm := @run_makeMap Tryz.prog
  have HS := Aside0.mk hS
  have HF := Aside0.mk hF
  have HP := Aside0.mk (CB.mk (below_alloc (Below.refl w.heap.size w) (.cells #[.slice A1 sy.length c1, .slice A2 fs.length c2] 25)) (blk_new w (.cells #[.slice A1 sy.length c1, .slice A2 fs.length c2] 25)))
  have HBAD := Aside0.mk (fun (h : schB sy fs = false) => schV_bad h)
  clear hS hF
  go_enter Tryz.func14, Tryz.ntmps14
  go_upto_region 1 with (fail)
  generalize w.alloc (.cells #[.slice A1 sy.length c1, .slice A2 fs.length c2] 25) = W1 at *
  obtain ⟨p0, p1⟩ := (HP.out).cells
  by_cases h1 : (sy.length : Int) > 24
  · have HV := Aside0.mk (HBAD.out (schB_syms (by unfold symsB; rw [decide_eq_false (show ¬ sy.length ≤ 24 by omega)]; simp)))
    go_wp2
    go_ret
    exact ⟨by rw [HV.out]; rfl, (HP.out).hb⟩
  have HSL := Aside0.mk (show sy.length ≤ 24 by omega)
  go_wp2_with fail
  refine (tsyms_calls sy A1 c1 W1 (Kd.C_below HS.out (HP.out).hb) (by have := HSL.out; omega)).mono ?_
  rintro E w2 ⟨rfl, hb⟩
  have HP2 := Aside0.mk ((HP.out).below hb)
  clear hb p0 p1 HP
  cases q : symsB sy with
  | false =>
    have HV := Aside0.mk (HBAD.out (schB_syms q))
    clear q
    go_wp2
    go_ret
    exact ⟨by rw [HV.out]; rfl, (HP2.out).hb⟩
  | true =>
  have HSY := Aside0.mk q
  clear q h1
  obtain ⟨p0, p1⟩ := (HP2.out).cells
  by_cases h2 : fs.length = 0
  · have HV := Aside0.mk (HBAD.out (schB_none h2))
    have h2z : (fs.length : Int) = 0 := by omega
    go_wp2
    go_ret
    exact ⟨by rw [HV.out]; rfl, (HP2.out).hb⟩
  have h2z : ((fs.length : Int) == 0) = false := by simpa using h2
  by_cases h3 : 64 < fs.length
  · have HV := Aside0.mk (HBAD.out (schB_many h3))
    have h3z : (fs.length : Int) > 64 := by omega
    go_wp2
    go_ret
    exact ⟨by rw [HV.out]; rfl, (HP2.out).hb⟩
  have h3z : decide (64 < (fs.length : Int)) = false := decide_eq_false (by omega)
  obtain ⟨ad, As, cs, At, ct, e, hx0, hx1, hx2, hx3, hx4, hls, hCs, hlt4, hCt⟩ := at_T52 HF.out 0 (by omega) (by omega)
  subst e
  rw [show ((0 : Int).toNat * 5) = 0 from rfl, Addr.add_zero'] at hx1
  replace hx1 := ((HP2.out).hb.cell (World.block_lt_of_cell? w _ hx1)).trans hx1
  have HN0 := Aside0.mk (And.intro h2 h3)
  have h5z : (0 : Int) < (fs.length : Int) := by omega
  clear h2 h3 hx0 hx2 hx3 hx4 hls hCs hlt4 hCt
  have HST := Aside0.mk (fun h => HBAD.out (schB_start (sy := sy) (fs := fs) h))
  have HSG := Aside0.mk (fun h5 h6 h7 (h : (rd_T52 fs 0).f1.f0.length = 0) => schV_good (schB_all HSY.out (HN0.out).1 (HN0.out).2 h h5 h6 h7))
  generalize (rd_T52 fs 0).f1.f0.length = n0 at *
  by_cases h4 : n0 = 0
  case neg =>
    have HV := Aside0.mk (HST.out h4)
    have h4z : (n0 : Int) > 0 := by omega
    go_wp2
    go_ret
    exact ⟨by rw [HV.out]; rfl, (HP2.out).hb⟩
  have HSG := Aside0.mk (fun h5 h6 h7 => HSG.out h5 h6 h7 h4)
  subst h4
  clear HST
  go_upto_region 4 with (fail)
  have HP3 := Aside0.mk ((HP2.out).below (below_alloc (Below.refl _ _) (.map #[] 0)))
  have HM3 := Aside0.mk (mapIs_new w2 Value.string Value.bool sdom)
  have HSZ := Aside0.mk (show w.heap.size < w2.heap.size from blk_lt (HP2.out).h0)
  clear p0 p1 hx1 hmm HP2
  generalize w2.alloc (.map #[] 0) = w3 at *
  generalize w2.heap.size = bm at *
  obtain ⟨p0, p1⟩ := (HP3.out).cells
  go_wp2
  clear p0 p1
  go_loopg [48] fs.length (fun gg v48 wi => ∃ (j : Nat), j ≤ fs.length ∧ fs.length - j ≤ gg ∧ v48 = .int .i64 j ∧ Aside0 (CB w wi (.slice A1 sy.length c1) (.slice (some ad) fs.length c2)) ∧ Aside0 (MapIs wi bm Value.string Value.bool sdom (tru ((fs.take j).map (·.f0)))) ∧ Aside0 (∀ x ∈ fs.take j, headOk x = true))
  case atStart => exact ⟨0, by omega, by omega, rfl, HP3, HM3, ⟨fun x hx => by simp at hx⟩⟩
  case round =>
    clear HP3 HM3
    obtain ⟨j, hj, hgg, rfl, HP, HM, HOK⟩ := hrel
    by_cases hlt : j < fs.length
    · have hltz : (j : Int) < (fs.length : Int) := by omega
      obtain ⟨ad', As, cs, At, ct, e, hx0, hx1, hx2, hx3, hx4, hls, hCs, hlt4, hCt⟩ := at_T52 HF.out (j : Int) (by omega) hltz
      obtain rfl := Option.some.inj e
      rw [rdF_at hlt] at hx0 hx1 hx2 hx3 hx4 hls hCs hlt4 hCt
      rw [Int.toNat_natCast] at hx0 hx1 hx2 hx3 hx4
      replace hx0 := ((HP.out).hb.cell (World.block_lt_of_cell? w _ hx0)).trans hx0
      replace hx1 := ((HP.out).hb.cell (World.block_lt_of_cell? w _ hx1)).trans hx1
      replace hx2 := ((HP.out).hb.cell (World.block_lt_of_cell? w _ hx2)).trans hx2
      replace hx3 := ((HP.out).hb.cell (World.block_lt_of_cell? w _ hx3)).trans hx3
      replace hx4 := ((HP.out).hb.cell (World.block_lt_of_cell? w _ hx4)).trans hx4
      have HHD := Aside0.mk (fun h => HBAD.out (schB_head (sy := sy) (List.getElem_mem hlt) h))
      have HTW := Aside0.mk (fun h => HBAD.out (schB_twice (sy := sy) hlt h))
      have HTK := Aside0.mk (takeS hlt)
      have HCs := Aside0.mk hCs
      have HLs := Aside0.mk hls
      clear hCs hls hlt4 hCt e
      generalize fs[j] = f at *
      go_upto_region 7 with (fail)
      have HX5 := Aside0.mk (blk_new wr (.cells #[.string f.f0, .slice As f.f1.f0.length cs, .int .i64 f.f2.f0, .int .i64 f.f2.f1, .slice At f.f2.f2.length ct] 52))
      have HP5 := Aside0.mk ((HP.out).below (below_alloc (Below.refl _ _) (.cells #[.string f.f0, .slice As f.f1.f0.length cs, .int .i64 f.f2.f0, .int .i64 f.f2.f1, .slice At f.f2.f2.length ct] 52)))
      have HM5 := Aside0.mk (HM.out.below (below_alloc (Below.refl _ _) (.cells #[.string f.f0, .slice As f.f1.f0.length cs, .int .i64 f.f2.f0, .int .i64 f.f2.f1, .slice At f.f2.f2.length ct] 52)))
      clear hx0 hx1 hx2 hx3 hx4 HP HM
      generalize (wr.alloc (.cells #[.string f.f0, .slice As f.f1.f0.length cs, .int .i64 f.f2.f0, .int .i64 f.f2.f1, .slice At f.f2.f2.length ct] 52)) = w5 at *
      generalize wr.heap.size = b7 at *
      have m0 : w5.cell? ⟨b7, 0, none⟩ = some (.string f.f0) := (blk_cell HX5.out 0).trans rfl
      go_wp2_with fail
      refine (name_calls f.f0 w5).mono ?_
      rintro E w6 ⟨rfl, hb⟩
      have HP6 := Aside0.mk ((HP5.out).below hb)
      have HM6 := Aside0.mk (HM5.out.below hb)
      have HX6 := Aside0.mk (blk_below HX5.out hb)
      clear hb m0 HP5 HM5 HX5
      cases q : nameB f.f0 with
      | false =>
        have HV := Aside0.mk (HHD.out (by unfold headOk; rw [q]; rfl))
        clear q
        go_wp2
        go_ret
        exact ⟨by rw [HV.out]; rfl, (HP6.out).hb⟩
      | true =>
      have HN := Aside0.mk q
      clear q
      have m0 : w6.cell? ⟨b7, 0, none⟩ = some (.string f.f0) := (blk_cell HX6.out 0).trans rfl
      have m1 : w6.cell? ⟨b7, 1, none⟩ = some (.slice As f.f1.f0.length cs) := (blk_cell HX6.out 1).trans rfl
      have hl := MapIs.look HM6.out keyStr Tryz.underlying59 (zero4 w6) (name_dom HN.out) false
      by_cases hm : f.f0 ∈ (fs.take j).map (·.f0)
      · rw [mget_tru_mem hm] at hl
        simp only [Bool.false_eq_true, if_false] at hl
        have HV := Aside0.mk (HTW.out hm)
        clear hm
        go_wp2
        go_ret
        exact ⟨by rw [HV.out]; rfl, (HP6.out).hb⟩
      have HNM := Aside0.mk hm
      rw [mget_tru_not hm] at hl
      simp only [Bool.false_eq_true, if_false] at hl
      clear hm
      have HSC := Aside0.mk (scheck_calls f.f1 As cs w6 (Kd.C_below HCs.out (HP6.out).hb) HLs.out)
      go_wp2_with fail
      refine (HSC.out).mono ?_
      rintro E w7 ⟨rfl, hb⟩
      have HP7 := Aside0.mk ((HP6.out).below hb)
      have HM7 := Aside0.mk (HM6.out.below hb)
      have HX7 := Aside0.mk (blk_below HX6.out hb)
      clear hb m0 m1 HP6 HM6 HX6 hl HSC
      cases q : srtB f.f1 with
      | false =>
        have HV := Aside0.mk (HHD.out (by unfold headOk; rw [q]; simp))
        rw [show schkV f.f1 = 6 by unfold schkV; rw [q]; rfl]
        clear q
        go_wp2
        go_ret
        exact ⟨by rw [HV.out]; rfl, (HP7.out).hb⟩
      | true =>
      have HOU := Aside0.mk (show headOk f = true by unfold headOk; rw [HN.out, q]; rfl)
      rw [show schkV f.f1 = 0 by unfold schkV; rw [q]; rfl]
      clear q
      have m0 : w7.cell? ⟨b7, 0, none⟩ = some (.string f.f0) := (blk_cell HX7.out 0).trans rfl
      obtain ⟨w8, hput, HM8, hg8⟩ := MapIs.put HM7.out keyStr Tryz.underlying59 (name_dom HN.out) true
      rw [mput_new (by rw [tru_keys]; exact HNM.out)] at HM8
      have HM8 := Aside0.mk (show MapIs w8 bm Value.string Value.bool sdom (tru ((fs.take (j + 1)).map (·.f0))) by rw [HTK.out, List.map_append]; unfold tru at HM8 ⊢; rw [List.map_append]; exact HM8)
      have HP8 := Aside0.mk (CB.mk (pw_below_grown (HP7.out).hb _ (HP7.out).hb.size hg8 (fun k hk => by cases hk; have := HSZ.out; omega)) (blk_grown (HP7.out).h0 hg8 (fun e => by have := Option.some.inj e; have := HSZ.out; omega)))
      have HA8 := Aside0.mk (show ∀ x ∈ fs.take (j + 1), headOk x = true from fun x hx => by
        rw [HTK.out] at hx
        rcases List.mem_append.1 hx with hx | hx
        · exact HOK.out x hx
        · obtain rfl := List.mem_singleton.1 hx; exact HOU.out)
      clear hg8
      go_wp2
      go_roundg (fs.length - (j + 1))
      case measure => omega
      case rel => exact ⟨j + 1, by omega, by omega, by rw [wrap_succ (by omega) (by have := (HN0.out).2; omega)]; rfl, HP8, HM8, HA8⟩
    · have hltz : ¬ (j : Int) < (fs.length : Int) := by omega
      have hje : j = fs.length := by omega
      subst hje
      rw [List.take_length] at HM HOK
      have HND := Aside0.mk (show (fs.map (·.f0)).Nodup from by have := (HM.out).2.1; rw [tru_keys] at this; exact this)
      have HSG2 := Aside0.mk (fun h7 => HSG.out HOK.out HND.out h7)
      have HPV := Aside0.mk (fun f (hf : f ∈ fs) => (show PV sy (fs.map (·.f1)) f.f1.f0 from ⟨symsB_rank HSY.out, fun s hs => by obtain ⟨g, hg, rfl⟩ := List.mem_map.1 hs; exact (headOk_N (HOK.out g hg)).1, (headOk_N (HOK.out f hf)).2⟩))
      obtain ⟨p0, p1⟩ := (HP.out).cells
      clear HSG HND HM HOK
      go_wp2
      clear p0 p1
      go_loopg [75] fs.length (fun gg v75 wi => ∃ (j : Nat), j ≤ fs.length ∧ fs.length - j ≤ gg ∧ v75 = .int .i64 j ∧ Aside0 (CB w wi (.slice A1 sy.length c1) (.slice (some ad) fs.length c2)) ∧ Aside0 (∀ (i : Nat) (h : i < fs.length), i < j → bodyOk sy fs fs[i] = true))
      case atStart => exact ⟨0, by omega, by omega, rfl, HP, ⟨fun i _ h => absurd h (Nat.not_lt_zero _)⟩⟩
      case round =>
        clear HP
        obtain ⟨j, hj, hgg, rfl, HP, HOK⟩ := hrel
        by_cases hlt : j < fs.length
        · have hltz : (j : Int) < (fs.length : Int) := by omega
          obtain ⟨ad', As, cs, At, ct, e, hx0, hx1, hx2, hx3, hx4, hls, hCs, hlt4, hCt⟩ := at_T52 HF.out (j : Int) (by omega) hltz
          obtain rfl := Option.some.inj e
          rw [rdF_at hlt] at hx0 hx1 hx2 hx3 hx4 hls hCs hlt4 hCt
          rw [Int.toNat_natCast] at hx0 hx1 hx2 hx3 hx4
          replace hx0 := ((HP.out).hb.cell (World.block_lt_of_cell? w _ hx0)).trans hx0
          replace hx1 := ((HP.out).hb.cell (World.block_lt_of_cell? w _ hx1)).trans hx1
          replace hx2 := ((HP.out).hb.cell (World.block_lt_of_cell? w _ hx2)).trans hx2
          replace hx3 := ((HP.out).hb.cell (World.block_lt_of_cell? w _ hx3)).trans hx3
          replace hx4 := ((HP.out).hb.cell (World.block_lt_of_cell? w _ hx4)).trans hx4
          have HBD := Aside0.mk (fun h => HBAD.out (schB_body (sy := sy) (List.getElem_mem hlt) h))
          have HGD := Aside0.mk (show bodyOk sy fs fs[j] = true → ∀ (i : Nat) (h : i < fs.length), i < j + 1 → bodyOk sy fs fs[i] = true from fun h i hi hij => by
            by_cases e : i = j
            · subst e; exact h
            · exact HOK.out i hi (by omega))
          have HPJ := Aside0.mk (HPV.out _ (List.getElem_mem hlt))
          have HCs := Aside0.mk hCs
          have HLs := Aside0.mk hls
          have HCt := Aside0.mk hCt
          have HLt := Aside0.mk hlt4
          clear hCs hls hlt4 hCt e
          generalize fs[j] = f at *
          go_upto_region 14 with (fail)
          have HX5 := Aside0.mk (blk_new wr (.cells #[.string f.f0, .slice As f.f1.f0.length cs, .int .i64 f.f2.f0, .int .i64 f.f2.f1, .slice At f.f2.f2.length ct] 52))
          have HP5 := Aside0.mk ((HP.out).below (below_alloc (Below.refl _ _) (.cells #[.string f.f0, .slice As f.f1.f0.length cs, .int .i64 f.f2.f0, .int .i64 f.f2.f1, .slice At f.f2.f2.length ct] 52)))
          clear hx0 hx1 hx2 hx3 hx4 HP
          generalize (wr.alloc (.cells #[.string f.f0, .slice As f.f1.f0.length cs, .int .i64 f.f2.f0, .int .i64 f.f2.f1, .slice At f.f2.f2.length ct] 52)) = w5 at *
          generalize wr.heap.size = b7 at *
          have m2 : w5.cell? ⟨b7, 2, none⟩ = some (.int .i64 f.f2.f0) := (blk_cell HX5.out 2).trans rfl
          have m3 : w5.cell? ⟨b7, 3, none⟩ = some (.int .i64 f.f2.f1) := (blk_cell HX5.out 3).trans rfl
          have m4 : w5.cell? ⟨b7, 4, none⟩ = some (.slice At f.f2.f2.length ct) := (blk_cell HX5.out 4).trans rfl
          have HTS := Aside0.mk (tsize_calls f.f2 At ct w5 (Kd.C_below HCt.out (HP5.out).hb) HLt.out)
          go_wp2_with fail
          refine (HTS.out).mono ?_
          rintro E w6 ⟨rfl, hb⟩
          have HP6 := Aside0.mk ((HP5.out).below hb)
          have HX6 := Aside0.mk (blk_below HX5.out hb)
          clear hb m2 m3 m4 HP5 HX5 HTS
          by_cases ht : tN f.f2 ≤ 400
          case neg =>
            have HV := Aside0.mk (HBD.out (by unfold bodyOk; rw [decide_eq_false ht]; rfl))
            have htz : (tsizeV f.f2).1 > 400 := by
              unfold tsizeV
              by_cases h : tN f.f2 ≤ 100000
              · rw [if_pos h]; simp only; omega
              · rw [if_neg h]; simp only; omega
            clear ht
            generalize (tsizeV f.f2).1 = z1 at *
            generalize (tsizeV f.f2).2 = z2 at *
            go_wp2
            go_ret
            exact ⟨by rw [HV.out]; rfl, (HP6.out).hb⟩
          have HTN := Aside0.mk ht
          rw [show tsizeV f.f2 = ((tN f.f2 : Int), (tD f.f2 : Int)) from if_pos (by omega)]
          have htz : ¬ (tN f.f2 : Int) > 400 := by omega
          by_cases hd : tD f.f2 ≤ 30
          case neg =>
            have HV := Aside0.mk (HBD.out (by unfold bodyOk; rw [decide_eq_false hd]; simp))
            have hdz : (tD f.f2 : Int) > 30 := by omega
            clear ht hd
            generalize (tN f.f2 : Int) = z1 at *
            generalize (tD f.f2 : Int) = z2 at *
            go_wp2
            go_ret
            exact ⟨by rw [HV.out]; rfl, (HP6.out).hb⟩
          have hdz : ¬ (tD f.f2 : Int) > 30 := by omega
          have HBO := Aside0.mk (show bodyOk sy fs f = endO (ofV sy (fs.map (·.f1)) f.f1.f0 f.f2) from by unfold bodyOk; rw [decide_eq_true ht, decide_eq_true hd, Bool.true_and, Bool.true_and])
          clear ht hd
          generalize (tN f.f2 : Int) = z1 at *
          generalize (tD f.f2 : Int) = z2 at *
          go_upto_region 17 with (fail)
          have HK := Aside0.mk (fun (W : World) (hW : Below w6.heap.size w6 W) => (show (W.cell? ⟨w.heap.size, 0, none⟩ = some (.slice A1 sy.length c1) ∧ W.cell? ⟨w.heap.size, 1, none⟩ = some (.slice (some ad) fs.length c2)) ∧ W.cell? ⟨b7, 1, none⟩ = some (.slice As f.f1.f0.length cs) ∧ W.cell? ⟨b7, 2, none⟩ = some (.int .i64 f.f2.f0) ∧ W.cell? ⟨b7, 3, none⟩ = some (.int .i64 f.f2.f1) ∧ W.cell? ⟨b7, 4, none⟩ = some (.slice At f.f2.f2.length ct) from
            ⟨((HP6.out).below hW).cells, (blk_cell (blk_below HX6.out hW) 1).trans rfl, (blk_cell (blk_below HX6.out hW) 2).trans rfl, (blk_cell (blk_below HX6.out hW) 3).trans rfl, (blk_cell (blk_below HX6.out hW) 4).trans rfl⟩))
          have HPL := Aside0.mk (fun (W : World) (hW : Below w6.heap.size w6 W) => place_calls sy fs A1 (some ad) As f.f1.f0.length c1 c2 cs W (Kd.C_below HF.out ((HP6.out).below hW).hb) (by have := (HN0.out).2; omega))
          have HOF := Aside0.mk (fun (W0 W : World) (A : Option Addr) (c : Nat) (hC : Kd.C k47 W0 A (fs.map (·.f1)).length (fs.map (·.f1))) (hW0 : Below w6.heap.size w6 W0) (hW : Below W0.heap.size W0 W) =>
            (show Calls Tryz.prog 43 #[.agg #[.slice A1 sy.length c1, .slice A fs.length c, .slice As f.f1.f0.length cs], .agg #[.int .i64 f.f2.f0, .int .i64 f.f2.f1, .slice At f.f2.f2.length ct]] W (OfC (ofV sy (fs.map (·.f1)) f.f1.f0 f.f2) W) from by
              have h := pof_calls sy (fs.map (·.f1)) f.f1.f0 HPJ.out A1 A As c1 c cs W0 (Kd.C_below HS.out ((HP6.out).below hW0).hb) hC (Kd.C_below HCs.out ((HP6.out).below hW0).hb) f.f2 (by have := HTN.out; omega) At ct W (Kd.C_below HCt.out ((HP6.out).below hW0).hb) HLt.out hW
              rw [List.length_map] at h
              exact h.mono fun E w' hE => ofC_of hE))
          unfold PlaceE at HPL
          unfold OfC at HOF
          have HEO := Aside0.mk (show endO (ofV sy (fs.map (·.f1)) f.f1.f0 f.f2) = ((ofV sy (fs.map (·.f1)) f.f1.f0 f.f2).isSome && decide (lenV (ofV sy (fs.map (·.f1)) f.f1.f0 f.f2) = 0)) from rfl)
          generalize (ofV sy (fs.map (·.f1)) f.f1.f0 f.f2).isSome = vb at *
          generalize lenV (ofV sy (fs.map (·.f1)) f.f1.f0 f.f2) = vn at *
          have hd := below_drew (Below.refl w6.heap.size w6)
          go_region_held3 (fun w' => (w'.cell? ⟨w.heap.size, 0, none⟩ = some (.slice A1 sy.length c1) ∧ w'.cell? ⟨w.heap.size, 1, none⟩ = some (.slice (some ad) fs.length c2)) ∧ w'.cell? ⟨b7, 1, none⟩ = some (.slice As f.f1.f0.length cs) ∧ w'.cell? ⟨b7, 2, none⟩ = some (.int .i64 f.f2.f0) ∧ w'.cell? ⟨b7, 3, none⟩ = some (.int .i64 f.f2.f1) ∧ w'.cell? ⟨b7, 4, none⟩ = some (.slice At f.f2.f2.length ct))
            (first | exact HK.out _ hd | exact HK.out _ hd1 | exact HK.out _ hd2 | exact HK.out _ (below_drew (below_alloc (Below.refl w6.heap.size w6) (.cells #[.slice none 0 0] 47))) | exact HK.out _ (below_alloc hd1 (.cells #[.slice none 0 0] 47)) | exact HK.out _ (below_alloc hd2 (.cells #[.slice none 0 0] 47)) | exact HK.out _ (below_alloc hd2 (.cells #[.slice Ao vn co] 47)) | exact HK.out _ (hd2.setCell (p := ⟨wp.heap.size, 0, none⟩) hle _) | exact HK.out _ (hd2.setCell (p := ⟨w6.heap.size, 0, none⟩) (Nat.le_refl _) _) | fail)
            (first
              | (go_at_call 42; (first | (with_reducible refine (HPL.out _ hd).mono ?_) | (have HN : ((w6.alloc (.cells #[.slice none 0 0] 47)).drew).heap[w6.heap.size]? = some (.cells #[.slice none 0 0] 47 (0, 0)) := blk_drew (blk_new w6 _); have hd := below_drew (below_alloc (Below.refl w6.heap.size w6) (.cells #[.slice none 0 0] 47)); with_reducible refine (HPL.out _ hd).mono ?_)); rintro E wp ⟨hbp, Apl, cpl, rfl, hlpl, hCpl⟩; have hd1 := below_then hd hd.size hbp; (try have HN1 := blk_below HN hbp); have HCP := Aside0.mk hCpl; have hle := hd1.size; clear hlpl hCpl hbp; (try clear HN); clear hd)
              | (go_at_call 43; (first | (with_reducible refine (HOF.out _ _ _ _ HCP.out hd1 (Below.refl _ _)).mono ?_) | (have HN1 : (wp.alloc (.cells #[.slice none 0 0] 47)).heap[wp.heap.size]? = some (.cells #[.slice none 0 0] 47 (0, 0)) := blk_new wp _; have hd3 := below_alloc (Below.refl wp.heap.size wp) (.cells #[.slice none 0 0] 47); have hd1' := below_alloc hd1 (.cells #[.slice none 0 0] 47); with_reducible refine (HOF.out _ _ _ _ HCP.out hd1 hd3).mono ?_; clear hd1; have hd1 := hd1'; clear hd1' hd3)); rintro E wo ⟨Ao, co, rfl, hbo⟩; have hd2 := below_then hd1 hd1.size hbo; (try have HN2 := blk_below HN1 hbo); clear hbo; (try clear HN1); clear hd1; (try (have hk0 := (blk_cell HN2 0).trans rfl; have hf0 := blk_frozen HN2 0)))
              | fail)
          all_goals
            first
              | (have HX10 := Aside0.mk (show (wo.setCell ⟨wp.heap.size, 0, none⟩ (.slice Ao vn co)).heap[wp.heap.size]? = some (.cells #[.slice Ao vn co] 47 (0, 0)) from blk_set HN2 0 (.slice Ao vn co))
                 have hbz := hd2.setCell (p := ⟨wp.heap.size, 0, none⟩) hle (.slice Ao vn co)
                 generalize (wo.setCell ⟨wp.heap.size, 0, none⟩ (.slice Ao vn co)) = Wz at *
                 clear HN2 hk0 hf0
                 generalize wp.heap.size = b10 at *)
              | (have HX10 := Aside0.mk (show (wo.setCell ⟨w6.heap.size, 0, none⟩ (.slice Ao vn co)).heap[w6.heap.size]? = some (.cells #[.slice Ao vn co] 47 (0, 0)) from blk_set HN2 0 (.slice Ao vn co))
                 have hbz := hd2.setCell (p := ⟨w6.heap.size, 0, none⟩) (Nat.le_refl _) (.slice Ao vn co)
                 generalize (wo.setCell ⟨w6.heap.size, 0, none⟩ (.slice Ao vn co)) = Wz at *
                 have HP10 := Aside0.mk ((HP6.out).below hbz)
                 clear HN2 hk0 hf0 hbz hle hd2 HPL HOF HK HP6
                 generalize w6.heap.size = b10 at *)
              | (have HX10 := Aside0.mk (blk_new wo (.cells #[.slice Ao vn co] 47))
                 have hbz := below_alloc hd2 (.cells #[.slice Ao vn co] 47)
                 generalize (wo.alloc (.cells #[.slice Ao vn co] 47)) = Wz at *
                 generalize wo.heap.size = b10 at *)
            (try have HP10 := Aside0.mk ((HP6.out).below hbz))
            have k0 : Wz.cell? ⟨b10, 0, none⟩ = some (.slice Ao vn co) := (blk_cell HX10.out 0).trans rfl
            cases vb with
            | false =>
              have HV := Aside0.mk (HBD.out (by rw [HBO.out, HEO.out]; rfl))
              go_wp2
              go_ret
              refine ⟨?_, (HP10.out).hb⟩
              rw [HV.out]; rfl
            | true =>
            by_cases hvn : vn = 0
            · have HG := Aside0.mk (HGD.out (by rw [HBO.out, HEO.out, decide_eq_true hvn]; rfl))
              subst hvn
              go_wp2
              go_roundg (fs.length - (j + 1))
              case measure => omega
              case rel => exact ⟨j + 1, by omega, by omega, by rw [wrap_succ (by omega) (by have := (HN0.out).2; omega)]; rfl, HP10, HG⟩
            · have HV := Aside0.mk (HBD.out (by rw [HBO.out, HEO.out, decide_eq_false hvn]; rfl))
              have hvz : (0 : Int) < (vn : Int) := by omega
              go_wp2
              go_ret
              refine ⟨?_, (HP10.out).hb⟩
              rw [HV.out]; rfl
        · have hltz : ¬ (j : Int) < (fs.length : Int) := by omega
          have hje : j = fs.length := by omega
          subst hje
          have HV := Aside0.mk (HSG2.out (fun f hf => by obtain ⟨i, hi, rfl⟩ := List.mem_iff_getElem.1 hf; exact HOK.out i hi hi))
          go_wp2
          go_ret
          refine ⟨?_, (HP.out).hb⟩
          rw [HV.out]
          all_goals first | rfl | trivial
end Go.Proofs.YthflpbgloeimfaaGreatDoor.H
namespace Go.Proofs.YthflpbgloeimfaaGreatDoor.H
open Go.RowKit Go.Proofs.YthflpbgloeimfaaGreatDoorW.PrintWords Go.Proofs.YthflpbgloeimfaaGreatDoorW.PrintLast Go.Proofs.YthflpbgloeimfaaGreatDoorW.PrintMore
open Go.Proofs.YthflpbgloeimfaaGreatDoor.Q (S47 k47 rd_T47 z47 at_T47 S50 k50 rd_T50 z50 at_T50 S52 k52 rd_T52 at_T52 z52 S71 k71 rd_T71 at_T71)
set_option linter.unusedVariables false
set_option linter.unusedSimpArgs false
mutual
def tC (k : Int) : S50 → Bool
  | ⟨a, n, l⟩ => (decide (a = 1) && decide (n = k)) || tCL k l
def tCL (k : Int) : List S50 → Bool
  | [] => false
  | x :: r => tC k x || tCL k r
end
theorem tCL_mem {k : Int} {l : List S50} : tCL k l = true ↔ ∃ x ∈ l, tC k x = true := by
  induction l with
  | nil => simp [tCL]
  | cons a r ih => rw [tCL, Bool.or_eq_true, ih]; simp
theorem tC_iff {k : Int} {t : S50} : tC k t = true ↔ (t.f0 = 1 ∧ t.f1 = k) ∨ ∃ x ∈ t.f2, tC k x = true := by
  obtain ⟨a, n, l⟩ := t
  rw [tC, Bool.or_eq_true, Bool.and_eq_true, decide_eq_true_eq, decide_eq_true_eq, tCL_mem]
theorem argsV_at {sy : List S71} {fu pa : List S47} {l : List S50} {s : List S47} (h : argsV sy fu pa l s = true) {i : Nat} (hi : i < l.length) : argOk sy fu pa l[i] (rd_T47 s (i : Int)) = true := by
  cases e : argOk sy fu pa l[i] (rd_T47 s (i : Int)) with
  | true => rfl
  | false => rw [argsV_false hi e] at h; cases h
theorem ofV_parts {sy : List S71} {fu pa : List S47} {t : S50} {x : List S47} (h : ofV sy fu pa t = some x) : ∃ s, headV sy fu pa t.f0 t.f1 = some s ∧ t.f2.length ≤ s.length ∧ argsV sy fu pa t.f2 s = true ∧ x = s.drop t.f2.length := by
  obtain ⟨k, n, l⟩ := t
  rw [ofV] at h
  cases e : headV sy fu pa k n with
  | none => rw [e] at h; cases h
  | some s =>
    rw [e] at h
    simp only at h
    refine ⟨s, rfl, ?_⟩
    split at h
    · cases h
    · split at h
      · cases h
        exact ⟨by simp only; omega, by assumption, rfl⟩
      · cases h
theorem headV_fun {sy : List S71} {fu pa : List S47} {n : Int} {s : List S47} (h : headV sy fu pa 1 n = some s) : 0 ≤ n ∧ n < (fu.length : Int) := by
  unfold headV at h
  by_cases h0 : n < 0
  · rw [if_pos h0] at h; cases h
  rw [if_neg h0, if_neg (by decide), if_pos rfl] at h
  by_cases h1 : n < (fu.length : Int)
  · exact ⟨by omega, h1⟩
  · rw [if_neg h1] at h; cases h
theorem argOk_some {sy : List S71} {fu pa : List S47} {a : S50} {b : S47} (h : argOk sy fu pa a b = true) : ofV sy fu pa a = some b.f0 := by
  unfold argOk at h
  cases e : ofV sy fu pa a with
  | none => rw [e] at h; cases h
  | some y =>
    rw [e] at h
    have := sE_iff.1 h
    rw [← this]
theorem ofV_calls {sy : List S71} {fu pa : List S47} (N : Nat) : ∀ (t : S50), tN t ≤ N → ∀ {x : List S47}, ofV sy fu pa t = some x → ∀ k : Int, tC k t = true → 0 ≤ k ∧ k < (fu.length : Int) := by
  induction N with
  | zero => intro t h; have := tN_pos t; omega
  | succ N ih =>
    intro t hN x hx k hk
    obtain ⟨s, h1, h2, h3, _⟩ := ofV_parts hx
    rcases tC_iff.1 hk with ⟨e1, e2⟩ | ⟨y, hy, hyk⟩
    · rw [e1, e2] at h1
      exact headV_fun h1
    · obtain ⟨i, hi, rfl⟩ := List.mem_iff_getElem.1 hy
      refine ih _ ?_ (argOk_some (argsV_at h3 hi)) k hyk
      have := tN_mem (List.getElem_mem hi)
      obtain ⟨a, n, l⟩ := t
      rw [tN] at hN
      simp only at this ⊢
      omega
inductive Rch (fs : List S52) : Nat → Prop
  | start : Rch fs 0
  | step {i k : Nat} (h : Rch fs i) (hi : i < fs.length) (hc : tC (k : Int) fs[i].f2 = true) : Rch fs k
def OkR (fs : List S52) (x : Int) : Prop := ∃ j : Nat, x = (j : Int) ∧ j < fs.length ∧ Rch fs j
def bodyAt (fs : List S52) (x : Int) : S50 := (rd_T52 fs x).f2
theorem bodyAt_at {fs : List S52} {j : Nat} (h : j < fs.length) : bodyAt fs (j : Int) = fs[j].f2 := by unfold bodyAt; rw [rdF_at h]
def CallsOk (fs : List S52) : Prop := ∀ (j : Nat) (h : j < fs.length) (k : Int), tC k fs[j].f2 = true → 0 ≤ k ∧ k < (fs.length : Int)
theorem schB_seven {sy : List S71} {fs : List S52} (h : schB sy fs = true) : symsB sy = true ∧ 1 ≤ fs.length ∧ fs.length ≤ 64 ∧ (rd_T52 fs 0).f1.f0.length = 0 ∧ (∀ f ∈ fs, headOk f = true) ∧ (fs.map (·.f0)).Nodup ∧ ∀ f ∈ fs, bodyOk sy fs f = true := by
  unfold schB at h
  simp only [Bool.and_eq_true, decide_eq_true_eq, List.all_eq_true] at h
  obtain ⟨⟨⟨⟨⟨⟨h1, h2⟩, h3⟩, h4⟩, h5⟩, h6⟩, h7⟩ := h
  exact ⟨h1, h2, h3, h4, h5, h6, h7⟩
theorem bodyOk_parts {sy : List S71} {fs : List S52} {f : S52} (h : bodyOk sy fs f = true) : tN f.f2 ≤ 400 ∧ tD f.f2 ≤ 30 ∧ ofV sy (fs.map (·.f1)) f.f1.f0 f.f2 = some [] := by
  unfold bodyOk endO at h
  simp only [Bool.and_eq_true, decide_eq_true_eq] at h
  obtain ⟨⟨h1, h2⟩, h3, h4⟩ := h
  refine ⟨h1, h2, ?_⟩
  cases e : ofV sy (fs.map (·.f1)) f.f1.f0 f.f2 with
  | none => rw [e] at h3; cases h3
  | some x =>
    rw [e] at h4
    have : x = [] := List.eq_nil_of_length_eq_zero h4
    rw [this]
theorem schB_calls {sy : List S71} {fs : List S52} (h : schB sy fs = true) : CallsOk fs := by
  intro j hj k hk
  have := ofV_calls _ _ (Nat.le_refl _) (bodyOk_parts ((schB_seven h).2.2.2.2.2.2 _ (List.getElem_mem hj))).2.2 k hk
  rwa [List.length_map] at this
def IsR (fs : List S52) (l : List Int) : Prop := l.Pairwise (· < ·) ∧ ∀ k : Int, k ∈ l ↔ OkR fs k
theorem lt_nodup {l : List Int} (h : l.Pairwise (· < ·)) : l.Nodup := h.imp (fun h e => by omega)
theorem IsR.uniq {fs : List S52} {l m : List Int} (h : IsR fs l) (g : IsR fs m) : l = m := by
  have hp : l.Perm m := (List.perm_ext_iff_of_nodup (lt_nodup h.1) (lt_nodup g.1)).2 fun k => (h.2 k).trans (g.2 k).symm
  exact List.Perm.eq_of_pairwise (le := (· < ·)) (fun a b _ _ h1 h2 => by omega) h.1 g.1 hp
structure DFS (fs : List S52) (M M1 : List Int) : Prop where
  sub : ∀ x ∈ M, x ∈ M1
  ok : ∀ x ∈ M1, OkR fs x
  cl : ∀ x ∈ M1, x ∉ M → ∀ k : Int, tC k (bodyAt fs x) = true → k ∈ M1
  len : M.length ≤ M1.length
theorem DFS.refl {fs : List S52} {M : List Int} (h : ∀ x ∈ M, OkR fs x) : DFS fs M M := ⟨fun _ h => h, h, fun x h1 h2 => absurd h1 h2, Nat.le_refl _⟩
theorem DFS.trans {fs : List S52} {M M1 M2 : List Int} (h : DFS fs M M1) (g : DFS fs M1 M2) : DFS fs M M2 :=
  ⟨fun x hx => g.sub x (h.sub x hx), g.ok, fun x hx hn k hk => by
    by_cases hm : x ∈ M1
    · exact g.sub k (h.cl x hm hn k hk)
    · exact g.cl x hx hm k hk, Nat.le_trans h.len g.len⟩
theorem DFS.meet {fs : List S52} {M M2 : List Int} {f : Int} (h : DFS fs (M ++ [f]) M2) (hb : ∀ k : Int, tC k (bodyAt fs f) = true → k ∈ M2) : DFS fs M M2 :=
  ⟨fun x hx => h.sub x (List.mem_append_left _ hx), h.ok, fun x hx hn k hk => by
    by_cases e : x = f
    · subst e; exact hb k hk
    · exact h.cl x hx (fun hm => by rcases List.mem_append.1 hm with h1 | h1; exact hn h1; exact e (List.mem_singleton.1 h1)) k hk, by have := h.len; rw [List.length_append] at this; omega⟩
theorem DFS.all {fs : List S52} {M : List Int} (h : DFS fs [] M) (h0 : (0 : Int) ∈ M) : ∀ j : Nat, Rch fs j → (j : Int) ∈ M := by
  intro j hj
  induction hj with
  | start => exact h0
  | step _ hi hc ih => exact h.cl _ ih (by simp) _ (by rw [bodyAt_at hi]; exact hc)
theorem nodup_bound : ∀ (n : Nat) (l : List Int), l.Nodup → (∀ x ∈ l, 0 ≤ x ∧ x < (n : Int)) → l.length ≤ n
  | 0, [], _, _ => by simp
  | 0, a :: r, _, h => by have := h a (by simp); omega
  | n + 1, l, hn, h => by
    have h1 : (l.erase (n : Int)).length ≤ n := nodup_bound n _ (hn.erase _) fun x hx => by
      have h2 := h x (List.mem_of_mem_erase hx)
      have h3 : x ≠ (n : Int) := fun e => by subst e; exact (List.Nodup.not_mem_erase hn) hx
      omega
    rw [List.length_erase] at h1
    split at h1 <;> omega
theorem OkR.room {fs : List S52} {M : List Int} {f : Int} (hn : M.Nodup) (hM : ∀ x ∈ M, OkR fs x) (hf : f ∉ M) (h0 : 0 ≤ f) (h1 : f < (fs.length : Int)) : M.length + 1 ≤ fs.length := by
  have := nodup_bound fs.length (M ++ [f]) (List.nodup_append.2 ⟨hn, by simp, fun a ha b hb => by rw [List.mem_singleton.1 hb]; exact fun e => hf (e ▸ ha)⟩) (fun x hx => by
    rcases List.mem_append.1 hx with hx | hx
    · obtain ⟨j, rfl, hj, _⟩ := hM x hx
      omega
    · rw [List.mem_singleton.1 hx]; exact ⟨h0, h1⟩)
  rwa [List.length_append, List.length_singleton] at this
end Go.Proofs.YthflpbgloeimfaaGreatDoor.H
namespace Go.Proofs.YthflpbgloeimfaaGreatDoor.H
open Go.RowKit Go.Proofs.YthflpbgloeimfaaGreatDoorW.PrintWords Go.Proofs.YthflpbgloeimfaaGreatDoorW.PrintLast Go.Proofs.YthflpbgloeimfaaGreatDoorW.PrintMore
open Go.Proofs.YthflpbgloeimfaaGreatDoor.Q (S47 k47 rd_T47 z47 at_T47 S50 k50 rd_T50 z50 at_T50 S52 k52 S71 k71 rd_T71 at_T71)
set_option linter.unusedVariables false
set_option linter.unusedSimpArgs false
theorem requal_calls (a b : S47) (A : Option Addr) (c : Nat) (B : Option Addr) (d : Nat) (w : World) (ha : Kd.C k47 w A a.f0.length a.f0) (hac : a.f0.length ≤ c) (hb : Kd.C k47 w B b.f0.length b.f0) (hbc : b.f0.length ≤ d) (hn : sN a ≤ 1000000) :
    Calls Tryz.prog 86 #[.agg #[.slice A a.f0.length c], .agg #[.slice B b.f0.length d]] w fun E w' => E = .returned (.bool (sE a b)) ∧ Below w.heap.size w w' := by
  obtain ⟨k, hk⟩ := (equal_ev 1000000 a b hn (by omega)).rounds
  exact Q.virgationref01_Equal.calls k A c a.f0 B d b.f0 (sE a b) w ha hac hb hbc hk
structure RB3 (w W : World) (s1 s2 s3 x y z r : Value) : Prop where
  hb : Below w.heap.size w W
  h0 : W.heap[w.heap.size]? = some (.cells #[s1, s2, s3] 109 (0, 0))
  h1 : W.heap[w.heap.size + 1]? = some (.cells #[x, y, z] 50 (0, 0))
  h2 : W.heap[w.heap.size + 2]? = some (.cells #[r] 47 (0, 0))
theorem RB3.start (w : World) (s1 s2 s3 x y z r : Value) : RB3 w (((w.alloc (.cells #[s1, s2, s3] 109)).alloc (.cells #[x, y, z] 50)).alloc (.cells #[r] 47)) s1 s2 s3 x y z r :=
  ⟨below_alloc (below_alloc (below_alloc (Below.refl _ _) _) _) _, blk_alloc (blk_alloc (blk_new w _) _) _, blk_alloc (blk_at2 w _ _) _, blk_at3 w _ _ _⟩
theorem RB3.below {w W W1 : World} {s1 s2 s3 x y z r : Value} (h : RB3 w W s1 s2 s3 x y z r) (hb : Below W.heap.size W W1) : RB3 w W1 s1 s2 s3 x y z r :=
  ⟨below_then h.hb h.hb.size hb, blk_below h.h0 hb, blk_below h.h1 hb, blk_below h.h2 hb⟩
theorem RB3.set {w W : World} {s1 s2 s3 x y z r : Value} (h : RB3 w W s1 s2 s3 x y z r) (u : Value) : RB3 w (W.setCell ⟨w.heap.size + 2, 0, none⟩ u) s1 s2 s3 x y z u :=
  ⟨h.hb.setCell (p := ⟨w.heap.size + 2, 0, none⟩) (by show w.heap.size ≤ w.heap.size + 2; omega) _, blk_far h.h0 (by show w.heap.size ≠ w.heap.size + 2; omega) _, blk_far h.h1 (by show w.heap.size + 1 ≠ w.heap.size + 2; omega) _, blk_set h.h2 0 u⟩
theorem RB3.cells {w W : World} {s1 s2 s3 x y z r : Value} (h : RB3 w W s1 s2 s3 x y z r) : (W.cell? ⟨w.heap.size, 0, none⟩ = some s1 ∧ W.cell? ⟨w.heap.size, 1, none⟩ = some s2 ∧ W.cell? ⟨w.heap.size, 2, none⟩ = some s3) ∧ (W.cell? ⟨w.heap.size + 1, 0, none⟩ = some x ∧ W.cell? ⟨w.heap.size + 1, 1, none⟩ = some y ∧ W.cell? ⟨w.heap.size + 1, 2, none⟩ = some z) ∧ W.cell? ⟨w.heap.size + 2, 0, none⟩ = some r ∧ W.frozen? ⟨w.heap.size + 2, 0, none⟩ = false :=
  ⟨⟨(blk_cell h.h0 0).trans rfl, (blk_cell h.h0 1).trans rfl, (blk_cell h.h0 2).trans rfl⟩, ⟨(blk_cell h.h1 0).trans rfl, (blk_cell h.h1 1).trans rfl, (blk_cell h.h1 2).trans rfl⟩, (blk_cell h.h2 0).trans rfl, blk_frozen h.h2 0⟩
set_option maxHeartbeats 8000000 in
set_option maxRecDepth 100000 in
theorem rhead_calls (sy : List S71) (fu pa : List S47) (t : S50) (A1 A2 A3 A : Option Addr) (c1 c2 c3 c : Nat) (w0 w : World) (h1 : Kd.C k71 w0 A1 sy.length sy) (h2 : Kd.C k47 w0 A2 fu.length fu) (h3 : Kd.C k47 w0 A3 pa.length pa) (hB : Below w0.heap.size w0 w)
    (hrk : ∀ x ∈ sy, 0 ≤ x.f1 ∧ x.f1 ≤ 8) :
    Calls Tryz.prog 110 #[.agg #[.slice A1 sy.length c1, .slice A2 fu.length c2, .slice A3 pa.length c3], .agg #[.int .i64 t.f0, .int .i64 t.f1, .slice A t.f2.length c]] w (SrtE w0 (headV sy fu pa t.f0 t.f1) w) := by
  obtain ⟨k, n, l⟩ := t
  have H1 := Aside0.mk h1
  have H2 := Aside0.mk h2
  have H3 := Aside0.mk h3
  have HRK := Aside0.mk hrk
  have HP := Aside0.mk (RB3.start w (.slice A1 sy.length c1) (.slice A2 fu.length c2) (.slice A3 pa.length c3) (.int .i64 k) (.int .i64 n) (.slice A l.length c) (.slice none 0 0))
  have HB0 := Aside0.mk (below_then hB hB.size (HP.out).hb)
  clear h1 h2 h3 hrk hB
  have HNO := Aside0.mk (fun (W : World) (E : Ending) (hv : headV sy fu pa k n = none) (hE : E = .returned (.tuple #[.agg #[.slice none 0 0], .bool false])) (hb : Below w.heap.size w W) => (show SrtE w0 (headV sy fu pa k n) w E W from ⟨hb, .inl ⟨hv, hE⟩⟩))
  show Calls Tryz.prog 110 #[.agg #[.slice A1 sy.length c1, .slice A2 fu.length c2, .slice A3 pa.length c3], .agg #[.int .i64 k, .int .i64 n, .slice A l.length c]] w (SrtE w0 (headV sy fu pa k n) w)
  go_enter Tryz.func110, Tryz.ntmps110
  go_upto_region 1 with (fail)
  generalize ((w.alloc (.cells #[.slice A1 sy.length c1, .slice A2 fu.length c2, .slice A3 pa.length c3] 109)).alloc (.cells #[.int .i64 k, .int .i64 n, .slice A l.length c] 50)).alloc (.cells #[.slice none 0 0] 47) = W1 at *
  obtain ⟨⟨p0, p1, p2⟩, ⟨q0, q1, q2⟩, r0, r1⟩ := (HP.out).cells
  by_cases hn : n < 0
  · have HV := Aside0.mk (show headV sy fu pa k n = none from if_pos hn)
    have HP2 := Aside0.mk ((HP.out).set (.slice none 0 0))
    go_wp2
    refine bodyPost_ret (results_row_tmp rfl _ _ (w.heap.size + 2) 47 #[.slice none 0 0] (0, 0) _ rfl (HP2.out).h2 Tryz.underlying47 rfl (by kernel_rfl)) rfl ?_
    exact HNO.out _ _ HV.out rfl (HP2.out).hb
  have hV0 : headV sy fu pa k n = if k = 0 then (if n < (pa.length : Int) then some (rd_T47 pa n).f0 else none) else if k = 1 then (if n < (fu.length : Int) then some (rd_T47 fu n).f0 else none) else if k = 2 then (if n < (sy.length : Int) then some (List.replicate (rd_T71 sy n).f1.toNat ⟨[]⟩) else none) else none := if_neg hn
  have HV0 := Aside0.mk hV0
  clear hV0
  by_cases hk0 : k = 0
  · by_cases hl : n < (pa.length : Int)
    · obtain ⟨ad, A0, c0, e, hx0, hl0, hC0⟩ := at_T47 (H3.out) n (by omega) hl
      subst e
      replace hx0 := ((HB0.out).cell (World.block_lt_of_cell? w0 _ hx0)).trans hx0
      have HV := Aside0.mk (show headV sy fu pa k n = some (rd_T47 pa n).f0 by rw [HV0.out, if_pos hk0, if_pos hl])
      have HL := Aside0.mk hl0
      have HC := Aside0.mk hC0
      generalize (rd_T47 pa n).f0 = s at *
      have HP2 := Aside0.mk ((HP.out).set (.slice A0 s.length c0))
      have hnn : 0 ≤ n := by omega
      subst hk0
      clear hl0 hC0 hn
      go_wp2
      refine bodyPost_ret (results_row_tmp rfl _ _ (w.heap.size + 2) 47 #[.slice A0 s.length c0] (0, 0) _ rfl (HP2.out).h2 Tryz.underlying47 rfl (by kernel_rfl)) rfl ?_
      exact ⟨(HP2.out).hb, .inr ⟨s, A0, c0, HV.out, rfl, HL.out, .inl HC.out⟩⟩
    · have HV := Aside0.mk (show headV sy fu pa k n = none by rw [HV0.out, if_pos hk0, if_neg hl])
      have HP2 := Aside0.mk ((HP.out).set (.slice none 0 0))
      subst hk0
      go_wp2
      refine bodyPost_ret (results_row_tmp rfl _ _ (w.heap.size + 2) 47 #[.slice none 0 0] (0, 0) _ rfl (HP2.out).h2 Tryz.underlying47 rfl (by kernel_rfl)) rfl ?_
      exact HNO.out _ _ HV.out rfl (HP2.out).hb
  by_cases hk1 : k = 1
  · by_cases hl : n < (fu.length : Int)
    · obtain ⟨ad, A0, c0, e, hx0, hl0, hC0⟩ := at_T47 (H2.out) n (by omega) hl
      subst e
      replace hx0 := ((HB0.out).cell (World.block_lt_of_cell? w0 _ hx0)).trans hx0
      have HV := Aside0.mk (show headV sy fu pa k n = some (rd_T47 fu n).f0 by rw [HV0.out, if_neg hk0, if_pos hk1, if_pos hl])
      have HL := Aside0.mk hl0
      have HC := Aside0.mk hC0
      generalize (rd_T47 fu n).f0 = s at *
      have HP2 := Aside0.mk ((HP.out).set (.slice A0 s.length c0))
      have hnn : 0 ≤ n := by omega
      subst hk1
      clear hl0 hC0 hn hk0
      go_wp2
      refine bodyPost_ret (results_row_tmp rfl _ _ (w.heap.size + 2) 47 #[.slice A0 s.length c0] (0, 0) _ rfl (HP2.out).h2 Tryz.underlying47 rfl (by kernel_rfl)) rfl ?_
      exact ⟨(HP2.out).hb, .inr ⟨s, A0, c0, HV.out, rfl, HL.out, .inl HC.out⟩⟩
    · have HV := Aside0.mk (show headV sy fu pa k n = none by rw [HV0.out, if_neg hk0, if_pos hk1, if_neg hl])
      have HP2 := Aside0.mk ((HP.out).set (.slice none 0 0))
      subst hk1
      clear hk0
      go_wp2
      refine bodyPost_ret (results_row_tmp rfl _ _ (w.heap.size + 2) 47 #[.slice none 0 0] (0, 0) _ rfl (HP2.out).h2 Tryz.underlying47 rfl (by kernel_rfl)) rfl ?_
      exact HNO.out _ _ HV.out rfl (HP2.out).hb
  by_cases hk2 : k = 2
  · by_cases hl : n < (sy.length : Int)
    · obtain ⟨ad, e, hx0, hx1⟩ := at_T71 (H1.out) n (by omega) hl
      subst e
      replace hx1 := ((HB0.out).cell (World.block_lt_of_cell? w0 _ hx1)).trans hx1
      have HV := Aside0.mk (show headV sy fu pa k n = some (List.replicate (rd_T71 sy n).f1.toNat ⟨[]⟩) by rw [HV0.out, if_neg hk0, if_neg hk1, if_pos hk2, if_pos hl])
      have hr := HRK.out (rd_T71 sy n) (by
        obtain ⟨j, rfl⟩ := Int.eq_ofNat_of_zero_le (show 0 ≤ n by omega)
        rw [rdY_at (by omega)]
        exact List.getElem_mem _)
      generalize (rd_T71 sy n).f1 = rk at *
      obtain ⟨m, rfl⟩ := Int.eq_ofNat_of_zero_le hr.1
      rw [Int.toNat_natCast] at HV
      have HM := Aside0.mk (show m ≤ 1000 by omega)
      have hmk := mk47 m HM.out
      have HP2 := Aside0.mk ((HP.out).below (below_alloc (Below.refl _ _) (.cells (madeCells #[.slice none 0 0] m) 47)))
      have HP3 := Aside0.mk ((HP2.out).set (.slice (some ⟨W1.heap.size, 0, none⟩) m m))
      have HC := Aside0.mk (blk_new W1 (.cells (madeCells #[.slice none 0 0] m) 47))
      have HSZ := Aside0.mk (show w.heap.size + 2 < W1.heap.size from blk_lt (HP.out).h2)
      obtain ⟨_, _, r3, r4⟩ := (HP2.out).cells
      have hnn : 0 ≤ n := by omega
      subst hk2
      clear hr hx0 hn hk0 hk1
      go_wp2
      refine bodyPost_ret (results_row_tmp rfl _ _ (w.heap.size + 2) 47 #[.slice (some ⟨W1.heap.size, 0, none⟩) m m] (0, 0) _ rfl (HP3.out).h2 Tryz.underlying47 rfl (by kernel_rfl)) rfl ?_
      refine ⟨(HP3.out).hb, .inr ⟨List.replicate m ⟨[]⟩, some ⟨W1.heap.size, 0, none⟩, m, HV.out, by rw [List.length_replicate]; rfl, by simp, .inr ⟨W1.heap.size, 0, m, rfl, by rw [List.length_replicate], by rw [List.length_replicate]; omega, HM.out, by have := HSZ.out; omega, blk_far HC.out (by have := HSZ.out; show W1.heap.size ≠ w.heap.size + 2; omega) _⟩⟩⟩
    · have HV := Aside0.mk (show headV sy fu pa k n = none by rw [HV0.out, if_neg hk0, if_neg hk1, if_pos hk2, if_neg hl])
      have HP2 := Aside0.mk ((HP.out).set (.slice none 0 0))
      subst hk2
      clear hk0 hk1
      go_wp2
      refine bodyPost_ret (results_row_tmp rfl _ _ (w.heap.size + 2) 47 #[.slice none 0 0] (0, 0) _ rfl (HP2.out).h2 Tryz.underlying47 rfl (by kernel_rfl)) rfl ?_
      exact HNO.out _ _ HV.out rfl (HP2.out).hb
  · have HV := Aside0.mk (show headV sy fu pa k n = none by rw [HV0.out, if_neg hk0, if_neg hk1, if_neg hk2])
    have HP2 := Aside0.mk ((HP.out).set (.slice none 0 0))
    go_wp2
    refine bodyPost_ret (results_row_tmp rfl _ _ (w.heap.size + 2) 47 #[.slice none 0 0] (0, 0) _ rfl (HP2.out).h2 Tryz.underlying47 rfl (by kernel_rfl)) rfl ?_
    exact HNO.out _ _ HV.out rfl (HP2.out).hb
structure RB4 (w W : World) (s1 s2 s3 x y z r : Value) (b6 : Nat) (u : Value) : Prop where
  p : RB3 w W s1 s2 s3 x y z r
  h6 : W.heap[b6]? = some (.cells #[u] 47 (0, 0))
  hlt : w.heap.size + 2 < b6
theorem RB4.below {w W W1 : World} {s1 s2 s3 x y z r u : Value} {b6 : Nat} (h : RB4 w W s1 s2 s3 x y z r b6 u) (hb : Below W.heap.size W W1) : RB4 w W1 s1 s2 s3 x y z r b6 u :=
  ⟨h.p.below hb, blk_below h.h6 hb, h.hlt⟩
set_option maxHeartbeats 8000000 in
set_option maxRecDepth 100000 in
theorem rof_calls (sy : List S71) (fu pa : List S47) (hPV : PV sy fu pa) (A1 A2 A3 : Option Addr) (c1 c2 c3 : Nat) (w0 : World) (h1 : Kd.C k71 w0 A1 sy.length sy) (h2 : Kd.C k47 w0 A2 fu.length fu) (h3 : Kd.C k47 w0 A3 pa.length pa) (N : Nat) (hN6 : N ≤ 1000000) :
    ∀ (t : S50), tN t ≤ N → ∀ (A : Option Addr) (c : Nat) (w : World), Kd.C k50 w0 A t.f2.length t.f2 → t.f2.length ≤ c → Below w0.heap.size w0 w →
    Calls Tryz.prog 67 #[.agg #[.slice A1 sy.length c1, .slice A2 fu.length c2, .slice A3 pa.length c3], .agg #[.int .i64 t.f0, .int .i64 t.f1, .slice A t.f2.length c]] w (SrtE w0 (ofV sy fu pa t) w) := by
  induction N with
  | zero => intro t h; have := tN_pos t; omega
  | succ N ih =>
    intro t hN A c w hC hc hB
    replace ih := ih (by omega)
    obtain ⟨k, n, l⟩ := t
    rw [tN] at hN
    have IH := Aside0.mk ih
    have HC := Aside0.mk hC
    have HB0 := Aside0.mk hB
    have HLEN := Aside0.mk (show l.length ≤ 1000000 from by have := tLen_le (l := l); omega)
    have HD := Aside0.mk (show tNL l ≤ N by omega)
    have HPV := Aside0.mk hPV
    have H1 := Aside0.mk h1
    have H2 := Aside0.mk h2
    have H3 := Aside0.mk h3
    have HP := Aside0.mk (RB3.start w (.slice A1 sy.length c1) (.slice A2 fu.length c2) (.slice A3 pa.length c3) (.int .i64 k) (.int .i64 n) (.slice A l.length c) (.slice none 0 0))
    have HO := Aside0.mk (show ofV sy fu pa ⟨k, n, l⟩ = match headV sy fu pa k n with | none => none | some s => if s.length < l.length then none else if argsV sy fu pa l s then some (s.drop l.length) else none from by rw [ofV] <;> rfl)
    show Calls Tryz.prog 67 #[.agg #[.slice A1 sy.length c1, .slice A2 fu.length c2, .slice A3 pa.length c3], .agg #[.int .i64 k, .int .i64 n, .slice A l.length c]] w (SrtE w0 (ofV sy fu pa ⟨k, n, l⟩) w)
    clear hC hc hB hN ih hPV h1 h2 h3 hN6
    generalize ofV sy fu pa ⟨k, n, l⟩ = V at *
    go_enter Tryz.func67, Tryz.ntmps67
    go_upto_region 1 with (fail)
    generalize ((w.alloc (.cells #[.slice A1 sy.length c1, .slice A2 fu.length c2, .slice A3 pa.length c3] 109)).alloc (.cells #[.int .i64 k, .int .i64 n, .slice A l.length c] 50)).alloc (.cells #[.slice none 0 0] 47) = W1 at *
    obtain ⟨⟨p0, p1, p2⟩, ⟨q0, q1, q2⟩, r0, r1⟩ := (HP.out).cells
    go_wp2_with fail
    have HBB := Aside0.mk (below_then HB0.out (HB0.out).size (HP.out).hb)
    have HW1 := Aside0.mk (blk_lt (HP.out).h2)
    refine (rhead_calls sy fu pa ⟨k, n, l⟩ A1 A2 A3 A c1 c2 c3 c w0 W1 H1.out H2.out H3.out HBB.out (HPV.out).1).mono ?_
    rintro E w2 ⟨hb, ⟨hv, rfl⟩ | ⟨s, As, cs, hv, rfl, hl, hCs⟩⟩
    · rw [hv] at HO
      have HP2 := Aside0.mk ((HP.out).below hb)
      clear hb hv p0 p1 p2 q0 q1 q2 r0 r1 HBB
      go_upto_region 2 with (fail)
      have HP3 := Aside0.mk ((HP2.out).below (below_alloc (Below.refl _ _) (.cells #[.slice none 0 0] 47)))
      generalize w2.alloc (.cells #[.slice none 0 0] 47) = w3 at *
      obtain ⟨_, _, r0, r1⟩ := (HP3.out).cells
      have HP4 := Aside0.mk ((HP3.out).set (.slice none 0 0))
      go_wp2
      refine bodyPost_ret (results_row_tmp rfl _ _ (w.heap.size + 2) 47 #[.slice none 0 0] (0, 0) _ rfl (HP4.out).h2 Tryz.underlying47 rfl (by kernel_rfl)) rfl ?_
      exact ⟨(HP4.out).hb, .inl ⟨HO.out, rfl⟩⟩
    · rw [hv] at HO
      have HP2 := Aside0.mk ((HP.out).below hb)
      have HCs := Aside0.mk hCs
      have HLs := Aside0.mk hl
      have HSN := Aside0.mk (show s.length ≤ 60 from by have := headV_N HPV.out hv; have := sLen_le (l := s); omega)
      clear hb hv p0 p1 p2 q0 q1 q2 r0 r1 HBB hCs hl
      go_upto_region 2 with (fail)
      have HP3 := Aside0.mk (RB4.mk ((HP2.out).below (below_alloc (Below.refl _ _) (.cells #[.slice As s.length cs] 47))) (blk_new w2 (.cells #[.slice As s.length cs] 47)) (blk_lt (HP2.out).h2))
      have HCs3 := Aside0.mk (HCs.out.below (below_alloc (Below.refl w2.heap.size w2) (.cells #[.slice As s.length cs] 47)))
      clear HP2 HCs
      generalize w2.alloc (.cells #[.slice As s.length cs] 47) = w3 at *
      generalize w2.heap.size = b6 at *
      obtain ⟨⟨p0, p1, p2⟩, ⟨q0, q1, q2⟩, r0, r1⟩ := (HP3.out).p.cells
      have u0 : w3.cell? ⟨b6, 0, none⟩ = some (.slice As s.length cs) := (blk_cell (HP3.out).h6 0).trans rfl
      by_cases hlen : s.length < l.length
      · rw [if_pos hlen] at HO
        have hlz : (l.length : Int) > (s.length : Int) := by omega
        have HP4 := Aside0.mk ((HP3.out).p.set (.slice none 0 0))
        clear hlen
        go_wp2
        refine bodyPost_ret (results_row_tmp rfl _ _ (w.heap.size + 2) 47 #[.slice none 0 0] (0, 0) _ rfl (HP4.out).h2 Tryz.underlying47 rfl (by kernel_rfl)) rfl ?_
        exact ⟨(HP4.out).hb, .inl ⟨HO.out, rfl⟩⟩
      rw [if_neg hlen] at HO
      have hlz : ¬ ((l.length : Int) > (s.length : Int)) := by omega
      have HLL := Aside0.mk (show l.length ≤ s.length by omega)
      clear hlen
      go_wp2
      clear hlz p0 p1 p2 q0 q1 q2 r0 r1 u0
      go_loopg [33] l.length (fun gg v33 wi => ∃ (j : Nat), j ≤ l.length ∧ l.length - j ≤ gg ∧ v33 = .int .i64 j ∧ Aside0 (RB4 w wi (.slice A1 sy.length c1) (.slice A2 fu.length c2) (.slice A3 pa.length c3) (.int .i64 k) (.int .i64 n) (.slice A l.length c) (.slice none 0 0) b6 (.slice As s.length cs)) ∧ Aside0 (SX w0 W1 wi As s) ∧ Aside0 (∀ (i : Nat) (h : i < l.length), i < j → argOk sy fu pa l[i] (rd_T47 s (i : Int)) = true))
      case atStart => exact ⟨0, by omega, by omega, rfl, HP3, HCs3, ⟨fun i _ h => absurd h (Nat.not_lt_zero _)⟩⟩
      case round =>
        clear HP3 HCs3
        obtain ⟨j, hj, hgg, rfl, HP3, HCs3, HOK⟩ := hrel
        by_cases hlt : j < l.length
        · have hltz : (j : Int) < (l.length : Int) := by omega
          have HBr := Aside0.mk (below_then HB0.out (HB0.out).size (HP3.out).p.hb)
          obtain ⟨ad, Aa, ca, e, hx0, hx1, hx2, hla, hCa⟩ := at_T50 HC.out (j : Int) (by omega) hltz
          subst e
          rw [rdT_at hlt] at hx0 hx1 hx2 hla hCa
          rw [Int.toNat_natCast] at hx0 hx1 hx2
          replace hx0 := ((HBr.out).cell (World.block_lt_of_cell? w0 _ hx0)).trans hx0
          replace hx1 := ((HBr.out).cell (World.block_lt_of_cell? w0 _ hx1)).trans hx1
          replace hx2 := ((HBr.out).cell (World.block_lt_of_cell? w0 _ hx2)).trans hx2
          have HJ := Aside0.mk (show tN l[j] ≤ N from by have := tN_mem (List.getElem_mem hlt); have := HD.out; omega)
          have HBAD := Aside0.mk (fun h => argsV_false (sy := sy) (fu := fu) (pa := pa) (l := l) (s := s) hlt h)
          have HGOOD := Aside0.mk (show argOk sy fu pa l[j] (rd_T47 s (j : Int)) = true → ∀ (i : Nat) (h : i < l.length), i < j + 1 → argOk sy fu pa l[i] (rd_T47 s (i : Int)) = true from fun h i hi hij => by
            by_cases e : i = j
            · subst e; exact h
            · exact HOK.out i hi (by omega))
          generalize l[j] = a at *
          have HCa := Aside0.mk hCa
          have HLa := Aside0.mk hla
          clear hCa hla
          go_upto_region 7 with (fail)
          have HX5 := Aside0.mk (blk_new wr (.cells #[.int .i64 a.f0, .int .i64 a.f1, .slice Aa a.f2.length ca] 50))
          have HP5 := Aside0.mk ((HP3.out).below (below_alloc (Below.refl _ _) (.cells #[.int .i64 a.f0, .int .i64 a.f1, .slice Aa a.f2.length ca] 50)))
          have HCs5 := Aside0.mk (HCs3.out.below (below_alloc (Below.refl wr.heap.size wr) (.cells #[.int .i64 a.f0, .int .i64 a.f1, .slice Aa a.f2.length ca] 50)))
          clear HBr hx0 hx1 hx2 HP3 HCs3
          generalize (wr.alloc (.cells #[.int .i64 a.f0, .int .i64 a.f1, .slice Aa a.f2.length ca] 50)) = w5 at *
          generalize wr.heap.size = b9 at *
          have HBr5 := Aside0.mk (below_then HB0.out (HB0.out).size (HP5.out).p.hb)
          obtain ⟨⟨p0, p1, p2⟩, ⟨q0, q1, q2⟩, r0, r1⟩ := (HP5.out).p.cells
          have m0 : w5.cell? ⟨b9, 0, none⟩ = some (.int .i64 a.f0) := (blk_cell HX5.out 0).trans rfl
          have m1 : w5.cell? ⟨b9, 1, none⟩ = some (.int .i64 a.f1) := (blk_cell HX5.out 1).trans rfl
          have m2 : w5.cell? ⟨b9, 2, none⟩ = some (.slice Aa a.f2.length ca) := (blk_cell HX5.out 2).trans rfl
          go_wp2_with fail
          refine (IH.out a HJ.out Aa ca w5 HCa.out HLa.out HBr5.out).mono ?_
          rintro E w6 ⟨hb, ⟨hv, rfl⟩ | ⟨x, Ax, cx, hv, rfl, hlx, hCx⟩⟩
          · have HF := Aside0.mk (HBAD.out (by unfold argOk; rw [hv]))
            have HP6 := Aside0.mk ((HP5.out).below hb)
            clear hb hv p0 p1 p2 q0 q1 q2 r0 r1 m0 m1 m2 HBr5 HP5
            go_upto_region 8 with (fail)
            have HP7 := Aside0.mk ((HP6.out).below (below_alloc (Below.refl _ _) (.cells #[.slice none 0 0] 47)))
            generalize w6.alloc (.cells #[.slice none 0 0] 47) = w7 at *
            obtain ⟨_, _, r0, r1⟩ := (HP7.out).p.cells
            have HP8 := Aside0.mk ((HP7.out).p.set (.slice none 0 0))
            have HP9 := Aside0.mk (fun n => (HP8.out).below (pw_below_drewN (Below.refl _ _) n))
            go_quiet (fail)
            go_wp2
            refine bodyPost_ret (results_row_tmp rfl _ _ (w.heap.size + 2) 47 #[.slice none 0 0] (0, 0) _ rfl (HP9.out _).h2 Tryz.underlying47 rfl (by kernel_rfl)) rfl ?_
            exact ⟨(HP9.out _).hb, .inl ⟨by rw [HO.out, HF.out]; rfl, rfl⟩⟩
          · have HP6 := Aside0.mk ((HP5.out).below hb)
            have HCs6 := Aside0.mk (HCs5.out.below hb)
            have HCx := Aside0.mk hCx
            have HLx := Aside0.mk hlx
            have HXN := Aside0.mk (ofV_N HPV.out hv)
            have HAO := Aside0.mk (show argOk sy fu pa a (rd_T47 s (j : Int)) = sE ⟨x⟩ (rd_T47 s (j : Int)) from by unfold argOk; rw [hv] <;> rfl)
            clear hb hv p0 p1 p2 q0 q1 q2 r0 r1 m0 m1 m2 HBr5 HP5 HCs5 hCx hlx
            go_upto_region 8 with (fail)
            have HX7 := Aside0.mk (blk_new w6 (.cells #[.slice Ax x.length cx] 47))
            have HP7 := Aside0.mk ((HP6.out).below (below_alloc (Below.refl _ _) (.cells #[.slice Ax x.length cx] 47)))
            have HCs7 := Aside0.mk (HCs6.out.below (below_alloc (Below.refl w6.heap.size w6) (.cells #[.slice Ax x.length cx] 47)))
            have HCx7 := Aside0.mk ((HCx.out.below (below_alloc (Below.refl w6.heap.size w6) (.cells #[.slice Ax x.length cx] 47))).C (below_then HB0.out (HB0.out).size (HP7.out).p.hb))
            clear HP6 HCs6 HCx
            generalize w6.alloc (.cells #[.slice Ax x.length cx] 47) = w7 at *
            generalize w6.heap.size = b10 at *
            have hjs : (j : Int) < (s.length : Int) := by have := HLL.out; omega
            obtain ⟨ads, A0, c0, e, hy0, hly, hCy⟩ := at_T47 (HCs7.out.C (below_then HB0.out (HB0.out).size (HP7.out).p.hb)) (j : Int) (by omega) hjs
            subst e
            rw [Int.toNat_natCast] at hy0
            have HS := Aside0.mk (fun W (hW : Below w7.heap.size w7 W) => requal_calls ⟨x⟩ (rd_T47 s (j : Int)) Ax cx A0 c0 W (Kd.C_below HCx7.out hW) HLx.out (Kd.C_below hCy hW) hly (by have := HXN.out; omega))
            generalize rd_T47 s (j : Int) = y at *
            have m0 : w7.cell? ⟨b10, 0, none⟩ = some (.slice Ax x.length cx) := (blk_cell HX7.out 0).trans rfl
            have u0 : w7.cell? ⟨b6, 0, none⟩ = some (.slice (some ads) s.length cs) := (blk_cell (HP7.out).h6 0).trans rfl
            have HK := Aside0.mk (fun (W : World) (hW : Below w7.heap.size w7 W) => And.intro (pw_cell_below hW m0) (And.intro (pw_cell_below hW u0) (pw_cell_below hW hy0)))
            have hd := below_drew (Below.refl w7.heap.size w7)
            clear hCy hly m0 u0 hy0
            go_region_held3 (fun w' => w'.cell? ⟨b10, 0, none⟩ = some (.slice Ax x.length cx) ∧ w'.cell? ⟨b6, 0, none⟩ = some (.slice (some ads) s.length cs) ∧ w'.cell? (ads.add j) = some (.slice A0 y.f0.length c0))
              (first | exact HK.out _ hd | exact HK.out _ hb8 | fail)
              (first | ((with_reducible refine (HS.out _ hd).mono ?_); rintro E w8 ⟨rfl, hb⟩; have hb8 := below_then hd hd.size hb; clear hb) | fail)
            have hb := hb8
            clear hd hb8
            have HP8 := Aside0.mk ((HP7.out).below hb)
            have HCs8 := Aside0.mk (HCs7.out.below hb)
            clear hb HP7 HCs7 HK HS
            cases q : sE ⟨x⟩ y with
            | false =>
              have HF := Aside0.mk (HBAD.out (by rw [HAO.out, q]))
              clear q
              obtain ⟨_, _, r0, r1⟩ := (HP8.out).p.cells
              have HP9 := Aside0.mk ((HP8.out).p.set (.slice none 0 0))
              go_wp2
              refine bodyPost_ret (results_row_tmp rfl _ _ (w.heap.size + 2) 47 #[.slice none 0 0] (0, 0) _ rfl (HP9.out).h2 Tryz.underlying47 rfl (by kernel_rfl)) rfl ?_
              exact ⟨(HP9.out).hb, .inl ⟨by rw [HO.out, HF.out]; rfl, rfl⟩⟩
            | true =>
              have HG := Aside0.mk (HGOOD.out (by rw [HAO.out, q]))
              clear q
              go_wp2
              go_roundg (l.length - (j + 1))
              case measure => omega
              case rel => exact ⟨j + 1, by omega, by omega, by rw [wrap_succ (by omega) (by have := HLEN.out; omega)]; rfl, HP8, HCs8, HG⟩
        · have hltz : ¬ (j : Int) < (l.length : Int) := by omega
          have hje : j = l.length := by omega
          subst hje
          have HT := Aside0.mk (argsV_true (sy := sy) (fu := fu) (pa := pa) (l := l) (s := s) (fun i hi => HOK.out i hi hi))
          obtain ⟨⟨p0, p1, p2⟩, ⟨q0, q1, q2⟩, r0, r1⟩ := (HP3.out).p.cells
          have u0 : wr.cell? ⟨b6, 0, none⟩ = some (.slice As s.length cs) := (blk_cell (HP3.out).h6 0).trans rfl
          have hls : l.length ≤ s.length := HLL.out
          have hsc : s.length ≤ cs := HLs.out
          have HD1 := Aside0.mk ((HCs3.out).drop hls hsc)
          have HP4 := Aside0.mk (fun u => (HP3.out).p.set u)
          have HV := Aside0.mk (show V = some (s.drop l.length) by rw [HO.out, HT.out]; rfl)
          have HSL := Aside0.mk (show (s.drop l.length).length = s.length - l.length from List.length_drop)

          go_wp2
          · subst h
            refine bodyPost_ret (results_row_tmp rfl _ _ (w.heap.size + 2) 47 #[.slice As (s.length - l.length) 0] (0, 0) _ rfl (HP4.out _).h2 Tryz.underlying47 rfl (by kernel_rfl)) rfl ?_
            refine ⟨(HP4.out _).hb, .inr ⟨s.drop l.length, As, 0, HV.out, by rw [HSL.out]; rfl, by have := HLs.out; rw [HSL.out]; omega, ?_⟩⟩
            have h1 := HD1.out
            rw [if_pos rfl] at h1
            exact ((h1.far (p := ⟨w.heap.size + 2, 0, none⟩) HW1.out _).lower (by have := HW1.out; omega))
          · refine bodyPost_ret (results_row_tmp rfl _ _ (w.heap.size + 2) 47 #[.slice (As.map (·.add l.length)) (s.length - l.length) (cs - l.length)] (0, 0) _ rfl (HP4.out _).h2 Tryz.underlying47 rfl (by kernel_rfl)) rfl ?_
            refine ⟨(HP4.out _).hb, .inr ⟨s.drop l.length, As.map (·.add l.length), cs - l.length, HV.out, by rw [HSL.out]; rfl, by have := HLs.out; rw [HSL.out]; omega, ?_⟩⟩
            have h1 := HD1.out
            rw [if_neg h] at h1
            exact ((h1.far (p := ⟨w.heap.size + 2, 0, none⟩) HW1.out _).lower (by have := HW1.out; omega))
end Go.Proofs.YthflpbgloeimfaaGreatDoor.H
namespace Go.Proofs.YthflpbgloeimfaaGreatDoor.H
open Go.RowKit Go.Proofs.YthflpbgloeimfaaGreatDoorW.PrintWords Go.Proofs.YthflpbgloeimfaaGreatDoorW.PrintLast Go.Proofs.YthflpbgloeimfaaGreatDoorW.PrintMore
open Go.Proofs.YthflpbgloeimfaaGreatDoor.Q (S47 k47 rd_T47 z47 at_T47 S50 k50 rd_T50 z50 at_T50 S52 k52 rd_T52 at_T52 S71 k71 rd_T71 at_T71)
set_option linter.unusedVariables false
set_option linter.unusedSimpArgs false
structure RPB (w W : World) (s1 s2 x y z u v : Value) : Prop where
  hb : Below w.heap.size w W
  h0 : W.heap[w.heap.size]? = some (.cells #[s1, s2] 25 (0, 0))
  h1 : W.heap[w.heap.size + 1]? = some (.cells #[x, y, z] 109 (0, 0))
  h2 : W.heap[w.heap.size + 2]? = some (.cells #[s1, u, v] 109 (0, 0))
theorem RPB.start (w : World) (s1 s2 x y z u v : Value) : RPB w (((w.alloc (.cells #[s1, s2] 25)).alloc (.cells #[x, y, z] 109)).alloc (.cells #[s1, u, v] 109)) s1 s2 x y z u v :=
  ⟨below_alloc (below_alloc (below_alloc (Below.refl _ _) _) _) _, blk_alloc (blk_alloc (blk_new w _) _) _, blk_alloc (blk_at2 w _ _) _, blk_at3 w _ _ _⟩
theorem RPB.below {w W W1 : World} {s1 s2 x y z u v : Value} (h : RPB w W s1 s2 x y z u v) (hb : Below W.heap.size W W1) : RPB w W1 s1 s2 x y z u v :=
  ⟨below_then h.hb h.hb.size hb, blk_below h.h0 hb, blk_below h.h1 hb, blk_below h.h2 hb⟩
theorem RPB.grown {w W W1 : World} {s1 s2 x y z u v : Value} (h : RPB w W s1 s2 x y z u v) {row : Option Nat} (hb : Below w.heap.size w W1) (hg : W.grownBy W1 row) (hne : ∀ k, row = some k → w.heap.size + 3 ≤ k) : RPB w W1 s1 s2 x y z u v :=
  ⟨hb, blk_grown h.h0 hg (fun e => by have := hne _ e.symm; omega), blk_grown h.h1 hg (fun e => by have := hne _ e.symm; omega), blk_grown h.h2 hg (fun e => by have := hne _ e.symm; omega)⟩
theorem RPB.setu {w W : World} {s1 s2 x y z u v : Value} (h : RPB w W s1 s2 x y z u v) (n : Value) : RPB w (W.setCell ⟨w.heap.size + 2, 1, none⟩ n) s1 s2 x y z n v :=
  ⟨h.hb.setCell (p := ⟨w.heap.size + 2, 1, none⟩) (by show w.heap.size ≤ w.heap.size + 2; omega) _, blk_far h.h0 (by show w.heap.size ≠ w.heap.size + 2; omega) _, blk_far h.h1 (by show w.heap.size + 1 ≠ w.heap.size + 2; omega) _, blk_set h.h2 1 n⟩
theorem RPB.out {w W : World} {s1 s2 x y z u v : Value} (h : RPB w W s1 s2 x y z u v) (a b c : Value) : (((W.setCell ⟨w.heap.size + 1, 0, none⟩ a).setCell ⟨w.heap.size + 1, 1, none⟩ b).setCell ⟨w.heap.size + 1, 2, none⟩ c).heap[w.heap.size + 1]? = some (.cells #[a, b, c] 109 (0, 0)) ∧ Below w.heap.size w (((W.setCell ⟨w.heap.size + 1, 0, none⟩ a).setCell ⟨w.heap.size + 1, 1, none⟩ b).setCell ⟨w.heap.size + 1, 2, none⟩ c) :=
  ⟨blk_set (blk_set (blk_set h.h1 0 a) 1 b) 2 c, ((h.hb.setCell (p := ⟨w.heap.size + 1, 0, none⟩) (Nat.le_succ _) _).setCell (p := ⟨w.heap.size + 1, 1, none⟩) (Nat.le_succ _) _).setCell (p := ⟨w.heap.size + 1, 2, none⟩) (Nat.le_succ _) _⟩
theorem RPB.cells {w W : World} {s1 s2 x y z u v : Value} (h : RPB w W s1 s2 x y z u v) : (W.cell? ⟨w.heap.size, 0, none⟩ = some s1 ∧ W.cell? ⟨w.heap.size, 1, none⟩ = some s2) ∧ (W.cell? ⟨w.heap.size + 2, 0, none⟩ = some s1 ∧ W.cell? ⟨w.heap.size + 2, 1, none⟩ = some u ∧ W.cell? ⟨w.heap.size + 2, 2, none⟩ = some v) ∧ W.frozen? ⟨w.heap.size + 2, 1, none⟩ = false :=
  ⟨⟨(blk_cell h.h0 0).trans rfl, (blk_cell h.h0 1).trans rfl⟩, ⟨(blk_cell h.h2 0).trans rfl, (blk_cell h.h2 1).trans rfl, (blk_cell h.h2 2).trans rfl⟩, blk_frozen h.h2 1⟩
theorem RPB.outs {w W : World} {s1 s2 x y z u v : Value} (h : RPB w W s1 s2 x y z u v) : (W.cell? ⟨w.heap.size + 1, 0, none⟩ = some x ∧ W.cell? ⟨w.heap.size + 1, 1, none⟩ = some y ∧ W.cell? ⟨w.heap.size + 1, 2, none⟩ = some z) ∧ W.frozen? ⟨w.heap.size + 1, 0, none⟩ = false ∧ W.frozen? ⟨w.heap.size + 1, 1, none⟩ = false ∧ W.frozen? ⟨w.heap.size + 1, 2, none⟩ = false :=
  ⟨⟨(blk_cell h.h1 0).trans rfl, (blk_cell h.h1 1).trans rfl, (blk_cell h.h1 2).trans rfl⟩, blk_frozen h.h1 0, blk_frozen h.h1 1, blk_frozen h.h1 2⟩
set_option maxHeartbeats 8000000 in
set_option maxRecDepth 100000 in
theorem rplace_calls (sy : List S71) (fs : List S52) (A1 A2 : Option Addr) (m c1 c2 : Nat) (w : World) (hF : Kd.C k52 w A2 fs.length fs) (hn : fs.length ≤ 100000) (hm : m < fs.length) :
    Calls Tryz.prog 68 #[.agg #[.slice A1 sy.length c1, .slice A2 fs.length c2], .int .i64 (m : Int)] w fun E w' => ∃ A3 c3, fs[m].f1.f0.length ≤ c3 ∧ Kd.C k47 w' A3 fs[m].f1.f0.length fs[m].f1.f0 ∧ PlaceE (.slice A1 sy.length c1) (.slice A3 fs[m].f1.f0.length c3) fs w E w' := by
  have HF := Aside0.mk hF
  have HN := Aside0.mk hn
  obtain ⟨ad, A3, c3, At, ct, e, hx0, hx1, hx2, hx3, hx4, hls, hCs, hlt4, hCt⟩ := at_T52 hF (m : Int) (by omega) (by omega)
  subst e
  rw [rdF_at hm] at hx0 hx1 hx2 hx3 hx4 hls hCs hlt4 hCt
  rw [Int.toNat_natCast] at hx1
  have HLs := Aside0.mk hls
  have HCs := Aside0.mk hCs
  have hmz : (m : Int) < (fs.length : Int) := by omega
  clear hF hn hx0 hx2 hx3 hx4 hls hCs hlt4 hCt
  generalize fs[m].f1.f0 = sp at *
  have HB0 := Aside0.mk (below_alloc (below_alloc (Below.refl w.heap.size w) (.cells #[.slice A1 sy.length c1, .slice (some ad) fs.length c2] 25)) (.cells #[.slice none 0 0, .slice none 0 0, .slice none 0 0] 109))
  have HX0 := Aside0.mk (blk_alloc (blk_new w (.cells #[.slice A1 sy.length c1, .slice (some ad) fs.length c2] 25)) (.cells #[.slice none 0 0, .slice none 0 0, .slice none 0 0] 109))
  have HX1 := Aside0.mk (blk_at2 w (.cells #[.slice A1 sy.length c1, .slice (some ad) fs.length c2] 25) (.cells #[.slice none 0 0, .slice none 0 0, .slice none 0 0] 109))
  have HSZ0 := Aside0.mk (show ((w.alloc (.cells #[.slice A1 sy.length c1, .slice (some ad) fs.length c2] 25)).alloc (.cells #[.slice none 0 0, .slice none 0 0, .slice none 0 0] 109)).heap.size = w.heap.size + 2 from by simp)
  go_enter Tryz.func68, Tryz.ntmps68
  go_upto_region 1 with (fail)
  generalize ((w.alloc (.cells #[.slice A1 sy.length c1, .slice (some ad) fs.length c2] 25)).alloc (.cells #[.slice none 0 0, .slice none 0 0, .slice none 0 0] 109)) = W0 at *
  have HK := Aside0.mk (fun (W : World) (hW : Below W0.heap.size W0 W) => (show (W.cell? ⟨w.heap.size, 0, none⟩ = some (.slice A1 sy.length c1) ∧ W.cell? ⟨w.heap.size, 1, none⟩ = some (.slice (some ad) fs.length c2)) ∧ W.cell? ⟨(ad.add (m * 5)).block, (ad.add (m * 5)).off + 1, none⟩ = some (.slice A3 sp.length c3) from
    ⟨⟨(blk_cell (blk_below HX0.out hW) 0).trans rfl, (blk_cell (blk_below HX0.out hW) 1).trans rfl⟩, ((below_then HB0.out (HB0.out).size hW).cell (World.block_lt_of_cell? w _ hx1)).trans hx1⟩))
  have hd := below_drew (Below.refl W0.heap.size W0)
  clear hx1
  go_region_held3 (fun w' => (w'.cell? ⟨w.heap.size, 0, none⟩ = some (.slice A1 sy.length c1) ∧ w'.cell? ⟨w.heap.size, 1, none⟩ = some (.slice (some ad) fs.length c2)) ∧ w'.cell? ⟨(ad.add (m * 5)).block, (ad.add (m * 5)).off + 1, none⟩ = some (.slice A3 sp.length c3))
    (first | exact HK.out _ hd | exact HK.out _ (below_drew (below_alloc (Below.refl W0.heap.size W0) _)) | exact HK.out _ (below_alloc hd _) | fail)
    (first | fail)
  have HP := Aside0.mk (RPB.mk (below_then HB0.out (HB0.out).size (below_drew (below_alloc (Below.refl W0.heap.size W0) (.cells #[.slice A1 sy.length c1, .slice none 0 0, .slice A3 sp.length c3] 109)))) (blk_drew (blk_alloc HX0.out (.cells #[.slice A1 sy.length c1, .slice none 0 0, .slice A3 sp.length c3] 109))) (blk_drew (blk_alloc HX1.out (.cells #[.slice A1 sy.length c1, .slice none 0 0, .slice A3 sp.length c3] 109))) (by rw [← HSZ0.out]; exact blk_drew (blk_new W0 (.cells #[.slice A1 sy.length c1, .slice none 0 0, .slice A3 sp.length c3] 109))))
  rw [HSZ0.out]
  clear HB0 HX0 HX1 HK hd HSZ0
  generalize ((W0.alloc (.cells #[.slice A1 sy.length c1, .slice none 0 0, .slice A3 sp.length c3] 109)).drew) = W1 at *
  obtain ⟨⟨p0, p1⟩, ⟨q0, q1, q2⟩, f1⟩ := (HP.out).cells
  go_wp2
  clear p0 p1 q0 q1 q2 f1
  go_loopg [21] fs.length (fun gg v21 wi => ∃ (j : Nat) (A : Option Addr) (c : Nat) (hs : List Hd), j ≤ fs.length ∧ fs.length - j ≤ gg ∧ v21 = .int .i64 j ∧ Aside0 (RPB w wi (.slice A1 sy.length c1) (.slice (some ad) fs.length c2) (.slice none 0 0) (.slice none 0 0) (.slice none 0 0) (.slice A hs.length c) (.slice A3 sp.length c3)) ∧ Aside0 (Kd.R kH 47 wi w.heap.size (fun k => w.heap.size + 3 ≤ k) (.slice A hs.length c) hs) ∧ Aside0 (RelS w hs ((fs.take j).map (·.f1))))
  case atStart => exact ⟨0, none, 0, [], by omega, by omega, rfl, HP, ⟨Kd.R_nil _ _ _ _ _⟩, ⟨RelS.nil w⟩⟩
  case round =>
    clear HP
    obtain ⟨j, A, c, hs, hj, hgg, rfl, HP, HR, HRS⟩ := hrel
    have HHL := Aside0.mk (show hs.length = j by rw [(HRS.out).1, List.length_map, List.length_take]; omega)
    by_cases hlt : j < fs.length
    · have hltz : (j : Int) < (fs.length : Int) := by omega
      obtain ⟨ad', As, cs, At, ct, e, hx0, hx1, hx2, hx3, hx4, hls, hCs, hlt4, hCt⟩ := at_T52 HF.out (j : Int) (by omega) hltz
      obtain rfl := Option.some.inj e
      rw [rdF_at hlt] at hx0 hx1 hx2 hx3 hx4 hls hCs hlt4 hCt
      rw [Int.toNat_natCast] at hx0 hx1 hx2 hx3 hx4
      replace hx0 := ((HP.out).hb.cell (World.block_lt_of_cell? w _ hx0)).trans hx0
      replace hx1 := ((HP.out).hb.cell (World.block_lt_of_cell? w _ hx1)).trans hx1
      replace hx2 := ((HP.out).hb.cell (World.block_lt_of_cell? w _ hx2)).trans hx2
      replace hx3 := ((HP.out).hb.cell (World.block_lt_of_cell? w _ hx3)).trans hx3
      replace hx4 := ((HP.out).hb.cell (World.block_lt_of_cell? w _ hx4)).trans hx4
      have HRS2 := Aside0.mk (show RelS w (hs ++ [(As, fs[j].f1.f0.length, cs)]) ((fs.take (j + 1)).map (·.f1)) from by
        rw [takeS hlt, List.map_append]
        exact RelS.snoc HRS.out hls hCs)
      clear hls hCs hlt4 hCt
      generalize fs[j] = f at *
      go_upto_region 5 with (fail)
      have HX5 := Aside0.mk (blk_new wr (.cells #[.string f.f0, .slice As f.f1.f0.length cs, .int .i64 f.f2.f0, .int .i64 f.f2.f1, .slice At f.f2.f2.length ct] 52))
      have HP5 := Aside0.mk ((HP.out).below (below_alloc (Below.refl _ _) (.cells #[.string f.f0, .slice As f.f1.f0.length cs, .int .i64 f.f2.f0, .int .i64 f.f2.f1, .slice At f.f2.f2.length ct] 52)))
      have HR5 := Aside0.mk (Kd.R_below HR.out (below_alloc (Below.refl wr.heap.size wr) (.cells #[.string f.f0, .slice As f.f1.f0.length cs, .int .i64 f.f2.f0, .int .i64 f.f2.f1, .slice At f.f2.f2.length ct] 52)))
      have HSZ := Aside0.mk (show w.heap.size + 3 ≤ wr.heap.size from by have := blk_lt (HP.out).h2; omega)
      clear hx0 hx1 hx2 hx3 hx4 HP HR
      generalize (wr.alloc (.cells #[.string f.f0, .slice As f.f1.f0.length cs, .int .i64 f.f2.f0, .int .i64 f.f2.f1, .slice At f.f2.f2.length ct] 52)) = w5 at *
      have HSZ5 := Aside0.mk (show w.heap.size + 3 ≤ w5.heap.size from by have := blk_lt (HP5.out).h2; have := blk_lt HX5.out; have := HSZ.out; omega)
      generalize wr.heap.size = b7 at *
      obtain ⟨⟨p0, p1⟩, ⟨q0, q1, q2⟩, f1⟩ := (HP5.out).cells
      have m1 : w5.cell? ⟨b7, 1, none⟩ = some (.slice As f.f1.f0.length cs) := (blk_cell HX5.out 1).trans rfl
      generalize f.f1.f0.length = n at *
      go_wp2_with ((with_reducible refine gate_builtin (b := .append) (xs := #[.tmp 26, .tmp 29]) rfl ?_); at_builtin; refine Kd.R_append kH (w0 := w) w.heap.size rfl (.tmp 26) (.tmp 29) 43 47 (.agg #[.slice none 0 0]) 24 rfl Tryz.underlying43 Q.info47 rfl (show 0 < 1 by decide) (by decide) (.slice A hs.length c) hs (As, n, cs) [.slice As n cs] (fun k => w.heap.size + 3 ≤ k) (fun _ => False) rfl rfl rfl (fun _ hk => hk.elim) (fun k hk => Nat.le_trans (HSZ5.out) hk) HR5.out (HP5.out).hb (HP5.out).hb.size (by have := HHL.out; have := HN.out; omega) ?_; intro v5 w6 ho5 hb5 hg5 hat5; (obtain ⟨A9, c9, rfl⟩ := Kd.R_slice ho5); have HP6 := Aside0.mk ((HP5.out).grown hb5 hg5 (HR5.out).1); have HR6 := Aside0.mk ho5; have f6 := (HP6.out).cells.2.2; have q6 := (HP6.out).cells.2.1.2.1; clear ho5 hb5 hg5 hat5)
      go_roundg (fs.length - (j + 1))
      case measure => omega
      case rel => exact ⟨j + 1, A9, c9, hs ++ [(As, n, cs)], by omega, by omega, by rw [wrap_succ (by omega) (by have := HN.out; omega)]; rfl, ⟨by rw [List.length_append, List.length_singleton]; exact (HP6.out).setu _⟩, ⟨by have h1 := Kd.R_far HR6.out (p := ⟨w.heap.size + 2, 1, none⟩) (fun k hk he => by have h0 : k = w.heap.size + 2 := he; omega) (Value.slice A9 (hs.length + 1) c9); rw [List.length_append, List.length_singleton] at h1; rw [List.length_append, List.length_singleton]; exact h1⟩, HRS2⟩
    · have hltz : ¬ (j : Int) < (fs.length : Int) := by omega
      have hje : j = fs.length := by omega
      subst hje
      rw [List.take_length] at HRS
      obtain ⟨⟨p0, p1⟩, ⟨q0, q1, q2⟩, f1⟩ := (HP.out).cells
      obtain ⟨⟨o0, o1, o2⟩, g0, g1, g2⟩ := (HP.out).outs
      have HO := Aside0.mk (HP.out.out (.slice A1 sy.length c1) (.slice A hs.length c) (.slice A3 sp.length c3))
      have HR3 := Aside0.mk (Kd.R_far (Kd.R_far (Kd.R_far HR.out (p := ⟨w.heap.size + 1, 0, none⟩) (fun k hk he => by have h0 : k = w.heap.size + 1 := he; omega) (.slice A1 sy.length c1)) (p := ⟨w.heap.size + 1, 1, none⟩) (fun k hk he => by have h0 : k = w.heap.size + 1 := he; omega) (.slice A hs.length c)) (p := ⟨w.heap.size + 1, 2, none⟩) (fun k hk he => by have h0 : k = w.heap.size + 1 := he; omega) (.slice A3 sp.length c3))
      obtain ⟨A9, c9, e9, hl9, hC9⟩ := C_of_heads HR3.out HRS.out (HO.out).2
      injection e9 with e1 e2 e3
      subst e1 e3
      have HC9 := Aside0.mk hC9
      have HL9 := Aside0.mk hl9
      rw [List.length_map] at HL9
      clear e2 hC9 hl9 HR3
      rw [HHL.out] at HO q1
      go_wp2
      refine bodyPost_ret (results_cell_row rfl _ _ (w.heap.size + 1) 109 #[.slice A1 sy.length c1, .slice A fs.length c, .slice A3 sp.length c3] (0, 0) _ rfl (HO.out).1 Tryz.underlying109 rfl (by kernel_rfl)) rfl ?_
      rw [HHL.out] at HC9
      exact ⟨A3, c3, HLs.out, Kd.C_below HCs.out (HO.out).2, (HO.out).2, A, c, rfl, HL9.out, HC9.out⟩
end Go.Proofs.YthflpbgloeimfaaGreatDoor.H
namespace Go.Proofs.YthflpbgloeimfaaGreatDoor.H
open Go.RowKit Go.Proofs.YthflpbgloeimfaaGreatDoorW.PrintWords Go.Proofs.YthflpbgloeimfaaGreatDoorW.PrintLast Go.Proofs.YthflpbgloeimfaaGreatDoorW.PrintMore
open Go.Proofs.YthflpbgloeimfaaGreatDoor.Q (S47 k47 rd_T47 z47 at_T47 S50 k50 rd_T50 z50 at_T50 S52 k52 rd_T52 at_T52 S71 k71 rd_T71 at_T71)
set_option linter.unusedVariables false
def metB (ns : List ByteArray) (s : ByteArray) : Bool := ns.any fun t => s.toList == t.toList
theorem bytes_eq {a b : ByteArray} : (a.toList == b.toList) = true ↔ a = b := by
  rw [beq_iff_eq, Lib.toList_data, Lib.toList_data]
  constructor
  · intro h
    rcases a with ⟨⟨a⟩⟩
    rcases b with ⟨⟨b⟩⟩
    exact congrArg (fun l => ByteArray.mk (Array.mk l)) h
  · rintro rfl; rfl
theorem metB_iff {ns : List ByteArray} {s : ByteArray} : metB ns s = true ↔ s ∈ ns := by
  unfold metB
  rw [List.any_eq_true]
  constructor
  · rintro ⟨t, ht, h⟩; rw [bytes_eq.1 h]; exact ht
  · intro h; exact ⟨s, h, bytes_eq.2 rfl⟩
def stepB (l : List S71) (i : Nat) (x : S71) : Bool := symOk x && !metB ((l.take i).map (·.f0)) x.f0
def restB (l : List S71) : Nat → List S71 → Bool
  | _, [] => true
  | i, x :: r => stepB l i x && restB l (i + 1) r
theorem nodup_of_take {α : Type} {l : List α} (h : ∀ (j : Nat) (hj : j < l.length), l[j] ∉ l.take j) : l.Nodup := by
  rw [List.nodup_iff_pairwise_ne, List.pairwise_iff_getElem]
  intro i j hi hj hij e
  refine h j hj ?_
  rw [← e, List.mem_iff_getElem]
  exact ⟨i, by rw [List.length_take]; omega, by rw [List.getElem_take]⟩
theorem restB_iff (l : List S71) : ∀ (r : List S71) (i : Nat), r = l.drop i → i ≤ l.length → (restB l i r = true ↔ ∀ (j : Nat) (hj : j < l.length), i ≤ j → stepB l j l[j] = true)
  | [], i, e, hi => by
    have h0 : l.length ≤ i := List.drop_eq_nil_iff.1 e.symm
    exact ⟨fun _ j hj hij => by omega, fun _ => rfl⟩
  | x :: r, i, e, hi => by
    have hlt : i < l.length := by
      by_cases h : i < l.length
      · exact h
      · rw [List.drop_eq_nil_of_le (by omega)] at e; cases e
    rw [dropS hlt] at e
    injection e with e1 e2
    rw [restB, Bool.and_eq_true, restB_iff l r (i + 1) e2 (by omega)]
    constructor
    · rintro ⟨h1, h2⟩ j hj hij
      by_cases hh : i = j
      · subst hh; rw [← e1]; exact h1
      · exact h2 j hj (by omega)
    · intro h
      exact ⟨by rw [e1]; exact h i hlt (Nat.le_refl _), fun j hj hij => h j hj (by omega)⟩
theorem symsB_rest {l : List S71} (hl : l.length ≤ 24) : symsB l = restB l 0 l := by
  have h := restB_iff l l 0 rfl (Nat.zero_le _)
  cases e : restB l 0 l with
  | true =>
    have h2 := h.1 e
    have h3 : ∀ x ∈ l, symOk x = true := fun x hx => by
      obtain ⟨j, hj, rfl⟩ := List.mem_iff_getElem.1 hx
      have := h2 j hj (Nat.zero_le _)
      unfold stepB at this
      rw [Bool.and_eq_true] at this
      exact this.1
    have h4 : (l.map (·.f0)).Nodup := nodup_of_take fun j hj hm => by
      have hj2 : j < l.length := by simpa using hj
      have := h2 j hj2 (Nat.zero_le _)
      unfold stepB at this
      rw [Bool.and_eq_true] at this
      have h5 : metB ((l.take j).map (·.f0)) l[j].f0 = true := metB_iff.2 (by rw [List.map_take]; simpa using hm)
      rw [h5] at this
      exact absurd this.2 (by simp)
    rw [symsB_all h3 h4, decide_eq_true hl]
  | false =>
    cases e2 : symsB l with
    | false => rfl
    | true =>
      have h6 : restB l 0 l = true := h.2 fun j hj _ => by
        unfold stepB
        rw [Bool.and_eq_true]
        constructor
        · cases e3 : symOk l[j] with
          | true => rfl
          | false => rw [symsB_bad (List.getElem_mem hj) e3] at e2; cases e2
        · cases e3 : metB ((l.take j).map (·.f0)) l[j].f0 with
          | false => rfl
          | true => rw [symsB_twice hj (metB_iff.1 e3)] at e2; cases e2
      rw [h6] at e; cases e
theorem rsyms_ev (l : List S71) : Ev (fun k => Q.virgationref02_Symbols.f k l) (symsB l) := by
  by_cases hl : l.length ≤ 24
  case neg =>
    refine Ev.congr (f := fun _ => some false) (fun k => by unfold Q.virgationref02_Symbols.f; rw [if_pos (by omega)]) ?_
    unfold symsB
    rw [decide_eq_false hl, Bool.and_false]
    exact Ev.now false
  rw [symsB_rest hl]
  have inner : ∀ (i : Nat) (x : S71) (y : List S71) (r : Bool), y.length ≤ 24 → Ev (fun k => Q.virgationref02_Symbols.l0 k l l (l.length : Int) (wrap64 ((i : Int) + 1))) r → ∀ d j : Nat, y.length - j = d → j ≤ y.length →
      Ev (fun k => Q.virgationref02_Symbols.l1 k l l (l.length : Int) (i : Int) y (y.length : Int) (j : Int) x.f0 x.f1) (!metB ((y.drop j).map (·.f0)) x.f0 && r) := by
    intro i x y r hy hr d
    induction d with
    | zero =>
      intro j hd hj
      rw [List.drop_eq_nil_of_le (by omega)]
      refine ev_next hr fun k => ?_
      simp only [Q.virgationref02_Symbols.l1]
      rw [if_neg (by omega)]
    | succ d ihd =>
      intro j hd hj
      have hlt : j < y.length := by omega
      have e2 := ihd (j + 1) (by omega) (by omega)
      rw [show ((j + 1 : Nat) : Int) = wrap64 ((j : Int) + 1) from (wrap_succ (i := (j : Int)) (by omega) (by omega)).symm] at e2
      rw [dropS hlt, List.map_cons]
      by_cases hh : x.f0.toList = y[j].f0.toList
      · refine ev_next (f := fun _ => some false) ?_ fun k => ?_
        · have : metB (y[j].f0 :: (y.drop (j + 1)).map (·.f0)) x.f0 = true := by unfold metB; rw [List.any_cons, beq_iff_eq.2 hh]; rfl
          rw [this]
          exact Ev.now false
        · simp only [Q.virgationref02_Symbols.l1]
          rw [if_pos (by omega), if_pos (by omega), if_pos (by omega), rdY_at hlt, if_pos hh]
      · have : metB (y[j].f0 :: (y.drop (j + 1)).map (·.f0)) x.f0 = metB ((y.drop (j + 1)).map (·.f0)) x.f0 := by unfold metB; rw [List.any_cons, beq_eq_false_iff_ne.2 hh, Bool.false_or]
        rw [this]
        refine ev_next e2 fun k => ?_
        simp only [Q.virgationref02_Symbols.l1]
        rw [if_pos (by omega), if_pos (by omega), if_pos (by omega), rdY_at hlt, if_neg hh]
  have outer : ∀ d i : Nat, l.length - i = d → i ≤ l.length → Ev (fun k => Q.virgationref02_Symbols.l0 k l l (l.length : Int) (i : Int)) (restB l i (l.drop i)) := by
    intro d
    induction d with
    | zero =>
      intro i hd hi
      rw [List.drop_eq_nil_of_le (by omega)]
      refine ev_end fun k => ?_
      simp only [Q.virgationref02_Symbols.l0]
      rw [if_neg (by omega)]; rfl
    | succ d ihd =>
      intro i hd hi
      have hlt : i < l.length := by omega
      have e2 := ihd (i + 1) (by omega) (by omega)
      rw [show ((i + 1 : Nat) : Int) = wrap64 ((i : Int) + 1) from (wrap_succ (i := (i : Int)) (by omega) (by omega)).symm] at e2
      have e3 := inner i l[i] (l.take i) _ (by rw [List.length_take]; omega) e2 _ 0 rfl (Nat.zero_le _)
      rw [List.drop_zero] at e3
      rw [dropS hlt, restB]
      have hno : ∀ a b c : Int, ∀ s : ByteArray, Ev (fun k => Q.virgationref02_Symbols.j1 k l (i : Int) l a b true s c) false := fun a b c s => ev_end fun k => by simp [Q.virgationref02_Symbols.j1]
      have hj1 : Ev (fun k => Q.virgationref02_Symbols.j1 k l (i : Int) l (l.length : Int) (i : Int) false l[i].f0 l[i].f1) (!metB ((l.take i).map (·.f0)) l[i].f0 && restB l (i + 1) (l.drop (i + 1))) := by
        refine ev_next e3 fun k => ?_
        simp only [Q.virgationref02_Symbols.j1]
        rw [if_neg (by simp), if_pos (by omega), if_pos (by omega)]
        simp only [Option.bind_some, Int.toNat_natCast]
        rfl
      refine ev_next (Ev.bind (f := fun k t => if t = true then (if l[i].f1 < 0 then Q.virgationref02_Symbols.j1 k l (i : Int) l (l.length : Int) (i : Int) true l[i].f0 l[i].f1 else Q.virgationref02_Symbols.j1 k l (i : Int) l (l.length : Int) (i : Int) (decide (l[i].f1 > 4)) l[i].f0 l[i].f1) else Q.virgationref02_Symbols.j1 k l (i : Int) l (l.length : Int) (i : Int) true l[i].f0 l[i].f1) (rname_ev l[i].f0) ?_) fun k => ?_
      · unfold stepB symOk
        cases nameB l[i].f0 with
        | false => simpa using hno _ _ _ _
        | true =>
          rw [Bool.true_and]
          by_cases h1 : l[i].f1 < 0
          · rw [decide_eq_false (show ¬ 0 ≤ l[i].f1 by omega)]
            simp only [if_pos h1, if_true, Bool.false_and]
            exact hno _ _ _ _
          · rw [decide_eq_true (show 0 ≤ l[i].f1 by omega), Bool.true_and]
            simp only [if_neg h1, if_true]
            by_cases h2 : l[i].f1 > 4
            · rw [decide_eq_false (show ¬ l[i].f1 ≤ 4 by omega), decide_eq_true h2]
              simp only [Bool.false_and]
              exact hno _ _ _ _
            · rw [decide_eq_true (show l[i].f1 ≤ 4 by omega), decide_eq_false h2, Bool.true_and]
              exact hj1
      · simp only [Q.virgationref02_Symbols.l0]
        rw [if_pos (by omega), if_pos (by omega), if_pos (by omega), rdY_at hlt]
  have e := outer l.length 0 (by omega) (Nat.zero_le _)
  rw [List.drop_zero] at e
  exact Ev.congr (fun k => by unfold Q.virgationref02_Symbols.f; rw [if_neg (by omega)]; rfl) e
theorem rsyms_calls (l : List S71) (A : Option Addr) (c : Nat) (w : World) (hC : Kd.C k71 w A l.length l) (hc : l.length ≤ c) :
    Calls Tryz.prog 36 #[.slice A l.length c] w fun E w' => E = .returned (.bool (symsB l)) ∧ Below w.heap.size w w' := by
  obtain ⟨k, hk⟩ := (rsyms_ev l).rounds
  exact Q.virgationref02_Symbols.calls k A c l (symsB l) w hC hc hk
theorem ris_calls (t : S47) (A : Option Addr) (c : Nat) (w : World) (hC : Kd.C k47 w A t.f0.length t.f0) (hc : t.f0.length ≤ c) :
    Calls Tryz.prog 37 #[.agg #[.slice A t.f0.length c]] w fun E w' => E = .returned (.bool (srtB t)) ∧ Below w.heap.size w w' := by
  obtain ⟨k, hk⟩ := (is_ev t).rounds
  exact Q.virgationref01_Is.calls k A c t.f0 (srtB t) w hC hc hk
theorem rnodes_calls (t : S50) (m : Nat) (hm : m ≤ 1000000) (A : Option Addr) (c : Nat) (w : World) (hC : Kd.C k50 w A t.f2.length t.f2) (hc : t.f2.length ≤ c) :
    Calls Tryz.prog 65 #[.agg #[.int .i64 t.f0, .int .i64 t.f1, .slice A t.f2.length c], .int .i64 (m : Int)] w fun E w' => E = .returned (.int .i64 ((min (tN t) (m + 1) : Nat) : Int)) ∧ Below w.heap.size w w' := by
  obtain ⟨k, hk⟩ := (tnodes_ev (tN t) t (Nat.le_refl _) m hm).rounds
  exact Q.virgationref02_Nodes.calls k t.f0 t.f1 A c t.f2 (m : Int) _ w hC hc hk
theorem rdepth_calls (t : S50) (h : tN t ≤ 1000000) (A : Option Addr) (c : Nat) (w : World) (hC : Kd.C k50 w A t.f2.length t.f2) (hc : t.f2.length ≤ c) :
    Calls Tryz.prog 66 #[.agg #[.int .i64 t.f0, .int .i64 t.f1, .slice A t.f2.length c]] w fun E w' => E = .returned (.int .i64 (tD t : Int)) ∧ Below w.heap.size w w' := by
  obtain ⟨k, hk⟩ := (tdepth_ev 1000000 t h (by omega)).rounds
  exact Q.virgationref02_Depth.calls k t.f0 t.f1 A c t.f2 (tD t : Int) w hC hc hk
end Go.Proofs.YthflpbgloeimfaaGreatDoor.H
namespace Go.Proofs.YthflpbgloeimfaaGreatDoor.H
open Go.RowKit Go.Proofs.YthflpbgloeimfaaGreatDoorW.PrintWords Go.Proofs.YthflpbgloeimfaaGreatDoorW.PrintLast Go.Proofs.YthflpbgloeimfaaGreatDoorW.PrintMore
open Go.Proofs.YthflpbgloeimfaaGreatDoor.Q (S47 k47 rd_T47 z47 at_T47 S50 k50 rd_T50 z50 at_T50 S52 k52 rd_T52 at_T52 z52 S71 k71 rd_T71 at_T71)
set_option linter.unusedVariables false
set_option linter.unusedSimpArgs false
theorem rofC_calls (sy : List S71) (fu pa : List S47) (hPV : PV sy fu pa) (A1 A2 A3 : Option Addr) (c1 c2 c3 : Nat) (w0 : World) (h1 : Kd.C k71 w0 A1 sy.length sy) (h2 : Kd.C k47 w0 A2 fu.length fu) (h3 : Kd.C k47 w0 A3 pa.length pa)
    (t : S50) (ht : tN t ≤ 1000000) (A : Option Addr) (c : Nat) (w : World) (hC : Kd.C k50 w0 A t.f2.length t.f2) (hc : t.f2.length ≤ c) (hB : Below w0.heap.size w0 w) :
    Calls Tryz.prog 67 #[.agg #[.slice A1 sy.length c1, .slice A2 fu.length c2, .slice A3 pa.length c3], .agg #[.int .i64 t.f0, .int .i64 t.f1, .slice A t.f2.length c]] w (OfC (ofV sy fu pa t) w) :=
  (rof_calls sy fu pa hPV A1 A2 A3 c1 c2 c3 w0 h1 h2 h3 1000000 (by omega) t ht A c w hC hc hB).mono fun E w' hE => ofC_of hE
set_option maxHeartbeats 16000000 in
set_option maxRecDepth 100000 in
theorem risch_calls (sy : List S71) (fs : List S52) (A1 A2 : Option Addr) (c1 c2 : Nat) (w : World) (hS : Kd.C k71 w A1 sy.length sy) (hF : Kd.C k52 w A2 fs.length fs) (hc1 : sy.length ≤ c1) (hc2 : fs.length ≤ c2) :
    Calls Tryz.prog 22 #[.agg #[.slice A1 sy.length c1, .slice A2 fs.length c2]] w fun E w' => E = .returned (.bool (schB sy fs)) ∧ Below w.heap.size w w' := by
  have HS := Aside0.mk hS
  have HF := Aside0.mk hF
  have HC2 := Aside0.mk hc2
  have HP := Aside0.mk (CB.mk (below_alloc (Below.refl w.heap.size w) (.cells #[.slice A1 sy.length c1, .slice A2 fs.length c2] 25)) (blk_new w (.cells #[.slice A1 sy.length c1, .slice A2 fs.length c2] 25)))
  have HRS := Aside0.mk (fun (W : World) (hW : Below w.heap.size w W) => rsyms_calls sy A1 c1 W (Kd.C_below hS hW) hc1)
  clear hS hF hc1 hc2
  go_enter Tryz.func22, Tryz.ntmps22
  go_upto_region 1 with (fail)
  generalize w.alloc (.cells #[.slice A1 sy.length c1, .slice A2 fs.length c2] 25) = W1 at *
  obtain ⟨p0, p1⟩ := (HP.out).cells
  go_wp2_with fail
  refine (HRS.out W1 (HP.out).hb).mono ?_
  rintro E w2 ⟨rfl, hb⟩
  have HP2 := Aside0.mk ((HP.out).below hb)
  clear hb p0 p1 HP HRS
  cases q : symsB sy with
  | false =>
    have HV := Aside0.mk (schB_syms (fs := fs) q)
    clear q
    go_wp2
    go_ret
    exact ⟨by rw [HV.out]; rfl, (HP2.out).hb⟩
  | true =>
  have HSY := Aside0.mk q
  clear q
  obtain ⟨p0, p1⟩ := (HP2.out).cells
  by_cases h2 : fs.length = 0
  · have HV := Aside0.mk (schB_none (sy := sy) h2)
    have h2z : (fs.length : Int) < 1 := by omega
    go_wp2
    go_ret
    exact ⟨by rw [HV.out]; rfl, (HP2.out).hb⟩
  have h2z : ¬ (fs.length : Int) < 1 := by omega
  by_cases h3 : 64 < fs.length
  · have HV := Aside0.mk (schB_many (sy := sy) h3)
    have h3z : (fs.length : Int) > 64 := by omega
    go_wp2
    go_ret
    exact ⟨by rw [HV.out]; rfl, (HP2.out).hb⟩
  have h3z : ¬ (fs.length : Int) > 64 := by omega
  have HN0 := Aside0.mk (And.intro h2 h3)
  have HSG := Aside0.mk (fun h4 h5 h6 h7 => schB_all HSY.out (HN0.out).1 (HN0.out).2 h4 h5 h6 h7)
  go_wp2
  clear h2 h3 h2z h3z p0 p1
  go_loopg [30] fs.length (fun gg v30 wi => ∃ (j : Nat), j ≤ fs.length ∧ fs.length - j ≤ gg ∧ v30 = .int .i64 j ∧ Aside0 (CB w wi (.slice A1 sy.length c1) (.slice A2 fs.length c2)) ∧ Aside0 (∀ (i : Nat) (h : i < fs.length), i < j → headOk fs[i] = true ∧ tN fs[i].f2 ≤ 400 ∧ tD fs[i].f2 ≤ 30 ∧ fs[i].f0 ∉ (fs.take i).map (·.f0)))
  case atStart => exact ⟨0, by omega, by omega, rfl, HP2, ⟨fun i _ h => absurd h (Nat.not_lt_zero _)⟩⟩
  case round =>
    clear HP2
    obtain ⟨j, hj, hgg, rfl, HP, HOK⟩ := hrel
    by_cases hlt : j < fs.length
    · have hltz : (j : Int) < (fs.length : Int) := by omega
      obtain ⟨ad, As, cs, At, ct, e, hx0, hx1, hx2, hx3, hx4, hls, hCs, hlt4, hCt⟩ := at_T52 HF.out (j : Int) (by omega) hltz
      subst e
      rw [rdF_at hlt] at hx0 hx1 hx2 hx3 hx4 hls hCs hlt4 hCt
      rw [Int.toNat_natCast] at hx0 hx1 hx2 hx3 hx4
      replace hx0 := ((HP.out).hb.cell (World.block_lt_of_cell? w _ hx0)).trans hx0
      replace hx1 := ((HP.out).hb.cell (World.block_lt_of_cell? w _ hx1)).trans hx1
      replace hx2 := ((HP.out).hb.cell (World.block_lt_of_cell? w _ hx2)).trans hx2
      replace hx3 := ((HP.out).hb.cell (World.block_lt_of_cell? w _ hx3)).trans hx3
      replace hx4 := ((HP.out).hb.cell (World.block_lt_of_cell? w _ hx4)).trans hx4
      have HHD := Aside0.mk (fun h => schB_head (sy := sy) (List.getElem_mem hlt) h)
      have HBD := Aside0.mk (fun h => schB_body (sy := sy) (List.getElem_mem hlt) h)
      have HTW := Aside0.mk (fun h => schB_twice (sy := sy) hlt h)
      have HNX := Aside0.mk (show (headOk fs[j] = true ∧ tN fs[j].f2 ≤ 400 ∧ tD fs[j].f2 ≤ 30 ∧ fs[j].f0 ∉ (fs.take j).map (·.f0)) → ∀ (i : Nat) (h : i < fs.length), i < j + 1 → headOk fs[i] = true ∧ tN fs[i].f2 ≤ 400 ∧ tD fs[i].f2 ≤ 30 ∧ fs[i].f0 ∉ (fs.take i).map (·.f0) from fun h i hi hij => by
        by_cases e : i = j
        · subst e; exact h
        · exact HOK.out i hi (by omega))
      have HCs := Aside0.mk hCs
      have HLs := Aside0.mk hls
      have HCt := Aside0.mk hCt
      have HLt := Aside0.mk hlt4
      clear hCs hls hlt4 hCt
      generalize fs[j] = f at *
      go_upto_region 6 with (fail)
      have HX5 := Aside0.mk (blk_new wr (.cells #[.string f.f0, .slice As f.f1.f0.length cs, .int .i64 f.f2.f0, .int .i64 f.f2.f1, .slice At f.f2.f2.length ct] 52))
      have HP5 := Aside0.mk ((HP.out).below (below_alloc (Below.refl _ _) (.cells #[.string f.f0, .slice As f.f1.f0.length cs, .int .i64 f.f2.f0, .int .i64 f.f2.f1, .slice At f.f2.f2.length ct] 52)))
      clear hx0 hx1 hx2 hx3 hx4 HP
      generalize (wr.alloc (.cells #[.string f.f0, .slice As f.f1.f0.length cs, .int .i64 f.f2.f0, .int .i64 f.f2.f1, .slice At f.f2.f2.length ct] 52)) = w5 at *
      generalize wr.heap.size = b7 at *
      have HK := Aside0.mk (fun (W : World) (h : W.heap[b7]? = some (.cells #[.string f.f0, .slice As f.f1.f0.length cs, .int .i64 f.f2.f0, .int .i64 f.f2.f1, .slice At f.f2.f2.length ct] 52 (0, 0))) => (show W.cell? ⟨b7, 0, none⟩ = some (.string f.f0) ∧ W.cell? ⟨b7, 1, none⟩ = some (.slice As f.f1.f0.length cs) ∧ W.cell? ⟨b7, 2, none⟩ = some (.int .i64 f.f2.f0) ∧ W.cell? ⟨b7, 3, none⟩ = some (.int .i64 f.f2.f1) ∧ W.cell? ⟨b7, 4, none⟩ = some (.slice At f.f2.f2.length ct) from
        ⟨(blk_cell h 0).trans rfl, (blk_cell h 1).trans rfl, (blk_cell h 2).trans rfl, (blk_cell h 3).trans rfl, (blk_cell h 4).trans rfl⟩))
      obtain ⟨m0, m1, m2, m3, m4⟩ := HK.out w5 HX5.out
      go_wp2_with fail
      refine (rname_calls f.f0 w5).mono ?_
      rintro E w6 ⟨rfl, hb⟩
      have HP6 := Aside0.mk ((HP5.out).below hb)
      have HX6 := Aside0.mk (blk_below HX5.out hb)
      clear hb m0 m1 m2 m3 m4 HP5 HX5
      cases q : nameB f.f0 with
      | false =>
        have HV := Aside0.mk (HHD.out (by unfold headOk; rw [q]; rfl))
        clear q
        go_wp2
        go_ret
        exact ⟨by rw [HV.out]; rfl, (HP6.out).hb⟩
      | true =>
      have HNM := Aside0.mk q
      clear q
      obtain ⟨m0, m1, m2, m3, m4⟩ := HK.out w6 HX6.out
      have HIS := Aside0.mk (ris_calls f.f1 As cs w6 (Kd.C_below HCs.out (HP6.out).hb) HLs.out)
      go_wp2_with fail
      refine (HIS.out).mono ?_
      rintro E w7 ⟨rfl, hb⟩
      have HP7 := Aside0.mk ((HP6.out).below hb)
      have HX7 := Aside0.mk (blk_below HX6.out hb)
      clear hb m0 m1 m2 m3 m4 HP6 HX6 HIS
      cases q : srtB f.f1 with
      | false =>
        have HV := Aside0.mk (HHD.out (by unfold headOk; rw [q]; simp))
        clear q
        go_wp2
        go_ret
        exact ⟨by rw [HV.out]; rfl, (HP7.out).hb⟩
      | true =>
      have HHO := Aside0.mk (show headOk f = true by unfold headOk; rw [HNM.out, q]; rfl)
      clear q
      obtain ⟨m0, m1, m2, m3, m4⟩ := HK.out w7 HX7.out
      have HND := Aside0.mk (rnodes_calls f.f2 400 (by omega) At ct w7 (Kd.C_below HCt.out (HP7.out).hb) HLt.out)
      go_wp2_with fail
      refine (HND.out).mono ?_
      rintro E w8 ⟨rfl, hb⟩
      have HP8 := Aside0.mk ((HP7.out).below hb)
      have HX8 := Aside0.mk (blk_below HX7.out hb)
      clear hb m0 m1 m2 m3 m4 HP7 HX7 HND
      by_cases ht : tN f.f2 ≤ 400
      case neg =>
        have HV := Aside0.mk (HBD.out (by unfold bodyOk; rw [decide_eq_false ht]; rfl))
        have htz : ((min (tN f.f2) (400 + 1) : Nat) : Int) > 400 := by omega
        clear ht
        generalize ((min (tN f.f2) (400 + 1) : Nat) : Int) = z1 at *
        go_wp2
        go_ret
        exact ⟨by rw [HV.out]; rfl, (HP8.out).hb⟩
      have HTN := Aside0.mk ht
      have htz : ¬ ((min (tN f.f2) (400 + 1) : Nat) : Int) > 400 := by omega
      clear ht
      generalize ((min (tN f.f2) (400 + 1) : Nat) : Int) = z1 at *
      obtain ⟨m0, m1, m2, m3, m4⟩ := HK.out w8 HX8.out
      have HDP := Aside0.mk (rdepth_calls f.f2 (by have := HTN.out; omega) At ct w8 (Kd.C_below HCt.out (HP8.out).hb) HLt.out)
      go_wp2_with fail
      refine (HDP.out).mono ?_
      rintro E w9 ⟨rfl, hb⟩
      have HP9 := Aside0.mk ((HP8.out).below hb)
      have HX9 := Aside0.mk (blk_below HX8.out hb)
      clear hb m0 m1 m2 m3 m4 HP8 HX8 HDP
      by_cases hd : tD f.f2 ≤ 30
      case neg =>
        have HV := Aside0.mk (HBD.out (by unfold bodyOk; rw [decide_eq_false hd]; simp))
        have hdz : (tD f.f2 : Int) > 30 := by omega
        clear hd
        generalize (tD f.f2 : Int) = z2 at *
        go_wp2
        go_ret
        exact ⟨by rw [HV.out]; rfl, (HP9.out).hb⟩
      have HTD := Aside0.mk hd
      have hdz : ¬ (tD f.f2 : Int) > 30 := by omega
      clear hd
      generalize (tD f.f2 : Int) = z2 at *
      obtain ⟨p0, p1⟩ := (HP9.out).cells
      have hjc : (j : Int) ≤ (c2 : Int) := by have := HC2.out; omega
      go_wp2
      clear htz hdz p0 p1
      have HTL := Aside0.mk (show (fs.take j).length = j by rw [List.length_take]; omega)
      have HTC := Aside0.mk (Kd.C_take (k := k52) HF.out (show j ≤ fs.length by omega))
      rw [HTL.out] at HTC
      go_loopg [62] j (fun gg v62 wi => ∃ (i2 : Nat), i2 ≤ j ∧ j - i2 ≤ gg ∧ v62 = .int .i64 i2 ∧ Aside0 (CB w wi (.slice A1 sy.length c1) (.slice (some ad) fs.length c2)) ∧ Aside0 (wi.heap[b7]? = some (.cells #[.string f.f0, .slice As f.f1.f0.length cs, .int .i64 f.f2.f0, .int .i64 f.f2.f1, .slice At f.f2.f2.length ct] 52 (0, 0))) ∧ Aside0 (∀ (q : Nat) (h : q < fs.length), q < i2 → fs[q].f0 ≠ f.f0))
      case atStart => exact ⟨0, by omega, by omega, rfl, HP9, HX9, ⟨fun i _ h => absurd h (Nat.not_lt_zero _)⟩⟩
      case round =>
        clear HP9 HX9
        obtain ⟨i2, hi2, hgg2, rfl, HP9, HX9, HNE⟩ := hrel
        by_cases hlt2 : i2 < j
        · have hltz2 : (i2 : Int) < (j : Int) := by omega
          have hfl : i2 < fs.length := by omega
          obtain ⟨ad', As2, cs2, At2, ct2, e, hx0, hx1, hx2, hx3, hx4, hls2, hCs2, hlt5, hCt2⟩ := at_T52 HF.out (i2 : Int) (by omega) (by omega)
          obtain rfl := Option.some.inj e
          rw [rdF_at hfl] at hx0 hx1 hx2 hx3 hx4
          rw [Int.toNat_natCast] at hx0 hx1 hx2 hx3 hx4
          replace hx0 := ((HP9.out).hb.cell (World.block_lt_of_cell? w _ hx0)).trans hx0
          replace hx1 := ((HP9.out).hb.cell (World.block_lt_of_cell? w _ hx1)).trans hx1
          replace hx2 := ((HP9.out).hb.cell (World.block_lt_of_cell? w _ hx2)).trans hx2
          replace hx3 := ((HP9.out).hb.cell (World.block_lt_of_cell? w _ hx3)).trans hx3
          replace hx4 := ((HP9.out).hb.cell (World.block_lt_of_cell? w _ hx4)).trans hx4
          have HIN := Aside0.mk (show fs[i2].f0 = f.f0 → f.f0 ∈ (fs.take j).map (·.f0) from fun h => by
            rw [← h]
            refine List.mem_map.2 ⟨fs[i2], ?_, rfl⟩
            rw [List.mem_iff_getElem]
            exact ⟨i2, by rw [HTL.out]; exact hlt2, by rw [List.getElem_take]⟩)
          have HNN := Aside0.mk (show fs[i2].f0 ≠ f.f0 → ∀ (q : Nat) (h : q < fs.length), q < i2 + 1 → fs[q].f0 ≠ f.f0 from fun h q hq hqi => by
            by_cases e : q = i2
            · subst e; exact h
            · exact HNE.out q hq (by omega))
          clear hls2 hCs2 hlt5 hCt2 e
          generalize fs[i2] = g at *
          go_upto_region 11 with (fail)
          have HX10 := Aside0.mk (blk_new wr (.cells #[.string g.f0, .slice As2 g.f1.f0.length cs2, .int .i64 g.f2.f0, .int .i64 g.f2.f1, .slice At2 g.f2.f2.length ct2] 52))
          have HY10 := Aside0.mk (blk_alloc HX9.out (.cells #[.string g.f0, .slice As2 g.f1.f0.length cs2, .int .i64 g.f2.f0, .int .i64 g.f2.f1, .slice At2 g.f2.f2.length ct2] 52))
          have HP10 := Aside0.mk ((HP9.out).below (below_alloc (Below.refl _ _) (.cells #[.string g.f0, .slice As2 g.f1.f0.length cs2, .int .i64 g.f2.f0, .int .i64 g.f2.f1, .slice At2 g.f2.f2.length ct2] 52)))
          clear hx0 hx1 hx2 hx3 hx4 HP9 HX9
          generalize (wr.alloc (.cells #[.string g.f0, .slice As2 g.f1.f0.length cs2, .int .i64 g.f2.f0, .int .i64 g.f2.f1, .slice At2 g.f2.f2.length ct2] 52)) = w10 at *
          generalize wr.heap.size = b10 at *
          have m0 : w10.cell? ⟨b7, 0, none⟩ = some (.string f.f0) := (blk_cell HY10.out 0).trans rfl
          have n0 : w10.cell? ⟨b10, 0, none⟩ = some (.string g.f0) := (blk_cell HX10.out 0).trans rfl
          cases q : (f.f0.toList == g.f0.toList) with
          | true =>
            have HV := Aside0.mk (HTW.out (HIN.out (bytes_eq.1 q).symm))
            go_wp2
            go_ret
            exact ⟨by rw [HV.out]; rfl, (HP10.out).hb⟩
          | false =>
            have HG := Aside0.mk (HNN.out (fun e => by rw [e] at q; simp at q))
            go_wp2
            go_roundg (j - (i2 + 1))
            case measure => omega
            case rel => exact ⟨i2 + 1, by omega, by omega, by first | rfl | (rw [wrap_succ (by omega) (by have := (HN0.out).2; omega)]; rfl), HP10, HY10, HG⟩
        · have hltz2 : ¬ (i2 : Int) < (j : Int) := by omega
          have hje : i2 = j := by omega
          subst hje
          have HG := Aside0.mk (HNX.out ⟨HHO.out, HTN.out, HTD.out, fun hm => by
            obtain ⟨x, hx, e⟩ := List.mem_map.1 hm
            obtain ⟨q, hq, rfl⟩ := List.mem_iff_getElem.1 hx
            have h1 : q < i2 := by rw [HTL.out] at hq; exact hq
            rw [List.getElem_take] at e
            exact HNE.out q (by omega) h1 e⟩)
          go_wp2
          go_roundg (fs.length - (i2 + 1))
          case measure => omega
          case rel => exact ⟨i2 + 1, by omega, by omega, by first | rfl | (rw [wrap_succ (by omega) (by have := (HN0.out).2; omega)]; rfl), HP9, HG⟩
    · have hltz : ¬ (j : Int) < (fs.length : Int) := by omega
      have hje : j = fs.length := by omega
      subst hje
      have HHA := Aside0.mk (show ∀ f ∈ fs, headOk f = true ∧ tN f.f2 ≤ 400 ∧ tD f.f2 ≤ 30 from fun f hf => by
        obtain ⟨i, hi, rfl⟩ := List.mem_iff_getElem.1 hf
        have := HOK.out i hi hi
        exact ⟨this.1, this.2.1, this.2.2.1⟩)
      have HND := Aside0.mk (show (fs.map (·.f0)).Nodup from nodup_of_take fun j hj hm => by
        have hj2 : j < fs.length := by simpa using hj
        refine (HOK.out j hj2 hj2).2.2.2 ?_
        rw [List.map_take]
        simpa using hm)
      have HSG2 := Aside0.mk (fun h4 h7 => HSG.out h4 (fun f hf => (HHA.out f hf).1) HND.out h7)
      have HPV := Aside0.mk (fun f (hf : f ∈ fs) => (show PV sy (fs.map (·.f1)) f.f1.f0 from ⟨symsB_rank HSY.out, fun s hs => by obtain ⟨g, hg, rfl⟩ := List.mem_map.1 hs; exact (headOk_N ((HHA.out g hg).1)).1, (headOk_N ((HHA.out f hf).1)).2⟩))
      clear HSG HND HOK
      obtain ⟨p0, p1⟩ := (HP.out).cells
      obtain ⟨ad, As, cs, At, ct, e, hx0, hx1, hx2, hx3, hx4, hls, hCs, hlt4, hCt⟩ := at_T52 HF.out 0 (by omega) (by have := (HN0.out).1; omega)
      subst e
      rw [show ((0 : Int).toNat * 5) = 0 from rfl, Addr.add_zero'] at hx1
      replace hx1 := ((HP.out).hb.cell (World.block_lt_of_cell? w _ hx1)).trans hx1
      clear hx0 hx2 hx3 hx4 hls hCs hlt4 hCt
      have h5z : (0 : Int) < (fs.length : Int) := by have := (HN0.out).1; omega
      have HST := Aside0.mk (fun h => schB_start (sy := sy) (fs := fs) h)
      generalize (rd_T52 fs 0).f1.f0.length = n0 at *
      by_cases h4 : n0 = 0
      case neg =>
        have HV := Aside0.mk (HST.out h4)
        have h4z : (n0 : Int) > 0 := by omega
        go_wp2
        go_ret
        exact ⟨by rw [HV.out]; rfl, (HP.out).hb⟩
      have HSG := Aside0.mk (fun h7 => HSG2.out h4 h7)
      subst h4
      clear HST HSG2
      go_wp2
      clear p0 p1 hx1 h5z
      go_loopg [84] fs.length (fun gg v84 wi => ∃ (j : Nat), j ≤ fs.length ∧ fs.length - j ≤ gg ∧ v84 = .int .i64 j ∧ Aside0 (CB w wi (.slice A1 sy.length c1) (.slice (some ad) fs.length c2)) ∧ Aside0 (∀ (i : Nat) (h : i < fs.length), i < j → bodyOk sy fs fs[i] = true))
      case atStart => exact ⟨0, by omega, by omega, rfl, HP, ⟨fun i _ h => absurd h (Nat.not_lt_zero _)⟩⟩
      case round =>
        clear HP
        obtain ⟨j, hj, hgg, rfl, HP, HOK⟩ := hrel
        by_cases hlt : j < fs.length
        · have hltz : (j : Int) < (fs.length : Int) := by omega
          obtain ⟨ad', As, cs, At, ct, e, hx0, hx1, hx2, hx3, hx4, hls, hCs, hlt4, hCt⟩ := at_T52 HF.out (j : Int) (by omega) hltz
          obtain rfl := Option.some.inj e
          rw [rdF_at hlt] at hx0 hx1 hx2 hx3 hx4 hls hCs hlt4 hCt
          rw [Int.toNat_natCast] at hx0 hx1 hx2 hx3 hx4
          replace hx0 := ((HP.out).hb.cell (World.block_lt_of_cell? w _ hx0)).trans hx0
          replace hx1 := ((HP.out).hb.cell (World.block_lt_of_cell? w _ hx1)).trans hx1
          replace hx2 := ((HP.out).hb.cell (World.block_lt_of_cell? w _ hx2)).trans hx2
          replace hx3 := ((HP.out).hb.cell (World.block_lt_of_cell? w _ hx3)).trans hx3
          replace hx4 := ((HP.out).hb.cell (World.block_lt_of_cell? w _ hx4)).trans hx4
          have HBD := Aside0.mk (fun h => schB_body (sy := sy) (List.getElem_mem hlt) h)
          have HGD := Aside0.mk (show bodyOk sy fs fs[j] = true → ∀ (i : Nat) (h : i < fs.length), i < j + 1 → bodyOk sy fs fs[i] = true from fun h i hi hij => by
            by_cases e : i = j
            · subst e; exact h
            · exact HOK.out i hi (by omega))
          have HPJ := Aside0.mk (HPV.out _ (List.getElem_mem hlt))
          have HHJ := Aside0.mk (HHA.out _ (List.getElem_mem hlt))
          have HPL := Aside0.mk (fun (W : World) (hW : Below w.heap.size w W) => rplace_calls sy fs A1 (some ad) j c1 c2 W (Kd.C_below HF.out hW) (by have := (HN0.out).2; omega) hlt)
          have HCt := Aside0.mk hCt
          have HLt := Aside0.mk hlt4
          clear hCs hls hlt4 hCt e
          generalize fs[j] = f at *
          go_upto_region 20 with (fail)
          have HX6 := Aside0.mk (blk_new wr (.cells #[.string f.f0, .slice As f.f1.f0.length cs, .int .i64 f.f2.f0, .int .i64 f.f2.f1, .slice At f.f2.f2.length ct] 52))
          have HP6 := Aside0.mk ((HP.out).below (below_alloc (Below.refl _ _) (.cells #[.string f.f0, .slice As f.f1.f0.length cs, .int .i64 f.f2.f0, .int .i64 f.f2.f1, .slice At f.f2.f2.length ct] 52)))
          clear hx0 hx1 hx2 hx3 hx4 HP
          generalize (wr.alloc (.cells #[.string f.f0, .slice As f.f1.f0.length cs, .int .i64 f.f2.f0, .int .i64 f.f2.f1, .slice At f.f2.f2.length ct] 52)) = w6 at *
          generalize wr.heap.size = b7 at *
          have HBO := Aside0.mk (show bodyOk sy fs f = endO (ofV sy (fs.map (·.f1)) f.f1.f0 f.f2) from by unfold bodyOk; rw [decide_eq_true (HHJ.out).2.1, decide_eq_true (HHJ.out).2.2, Bool.true_and, Bool.true_and])
          have HK := Aside0.mk (fun (W : World) (hW : Below w6.heap.size w6 W) => (show (W.cell? ⟨w.heap.size, 0, none⟩ = some (.slice A1 sy.length c1) ∧ W.cell? ⟨w.heap.size, 1, none⟩ = some (.slice (some ad) fs.length c2)) ∧ W.cell? ⟨b7, 2, none⟩ = some (.int .i64 f.f2.f0) ∧ W.cell? ⟨b7, 3, none⟩ = some (.int .i64 f.f2.f1) ∧ W.cell? ⟨b7, 4, none⟩ = some (.slice At f.f2.f2.length ct) from
            ⟨((HP6.out).below hW).cells, (blk_cell (blk_below HX6.out hW) 2).trans rfl, (blk_cell (blk_below HX6.out hW) 3).trans rfl, (blk_cell (blk_below HX6.out hW) 4).trans rfl⟩))
          have HPL := Aside0.mk (fun (W : World) (hW : Below w6.heap.size w6 W) => HPL.out W ((HP6.out).below hW).hb)
          have HOF := Aside0.mk (fun (W0 W : World) (A A3 : Option Addr) (c c3 : Nat) (hC : Kd.C k47 W0 A (fs.map (·.f1)).length (fs.map (·.f1))) (hC3 : Kd.C k47 W0 A3 f.f1.f0.length f.f1.f0) (hW0 : Below w6.heap.size w6 W0) (hW : Below W0.heap.size W0 W) =>
            (show Calls Tryz.prog 67 #[.agg #[.slice A1 sy.length c1, .slice A fs.length c, .slice A3 f.f1.f0.length c3], .agg #[.int .i64 f.f2.f0, .int .i64 f.f2.f1, .slice At f.f2.f2.length ct]] W (OfC (ofV sy (fs.map (·.f1)) f.f1.f0 f.f2) W) from by
              have h := rofC_calls sy (fs.map (·.f1)) f.f1.f0 HPJ.out A1 A A3 c1 c c3 W0 (Kd.C_below HS.out ((HP6.out).below hW0).hb) hC hC3 f.f2 (by have := (HHJ.out).2.1; omega) At ct W (Kd.C_below HCt.out ((HP6.out).below hW0).hb) HLt.out hW
              rw [List.length_map] at h
              exact h))
          unfold PlaceE at HPL
          unfold OfC at HOF
          have HEO := Aside0.mk (show endO (ofV sy (fs.map (·.f1)) f.f1.f0 f.f2) = ((ofV sy (fs.map (·.f1)) f.f1.f0 f.f2).isSome && decide (lenV (ofV sy (fs.map (·.f1)) f.f1.f0 f.f2) = 0)) from rfl)
          generalize (ofV sy (fs.map (·.f1)) f.f1.f0 f.f2).isSome = vb at *
          generalize lenV (ofV sy (fs.map (·.f1)) f.f1.f0 f.f2) = vn at *
          have hd := below_drew (Below.refl w6.heap.size w6)
          go_region_held3 (fun w' => (w'.cell? ⟨w.heap.size, 0, none⟩ = some (.slice A1 sy.length c1) ∧ w'.cell? ⟨w.heap.size, 1, none⟩ = some (.slice (some ad) fs.length c2)) ∧ w'.cell? ⟨b7, 2, none⟩ = some (.int .i64 f.f2.f0) ∧ w'.cell? ⟨b7, 3, none⟩ = some (.int .i64 f.f2.f1) ∧ w'.cell? ⟨b7, 4, none⟩ = some (.slice At f.f2.f2.length ct))
            (first | exact HK.out _ hd | exact HK.out _ hd1 | exact HK.out _ hd2 | exact HK.out _ (below_drew (below_alloc (Below.refl w6.heap.size w6) (.cells #[.slice none 0 0] 47))) | exact HK.out _ (below_alloc hd1 (.cells #[.slice none 0 0] 47)) | exact HK.out _ (below_alloc hd2 (.cells #[.slice none 0 0] 47)) | exact HK.out _ (below_alloc hd2 (.cells #[.slice Ao vn co] 47)) | exact HK.out _ (hd2.setCell (p := ⟨wp.heap.size, 0, none⟩) hle _) | exact HK.out _ (hd2.setCell (p := ⟨w6.heap.size, 0, none⟩) (Nat.le_refl _) _) | fail)
            (first
              | (go_at_call 68; (first | (with_reducible refine (HPL.out _ hd).mono ?_) | (have HN : ((w6.alloc (.cells #[.slice none 0 0] 47)).drew).heap[w6.heap.size]? = some (.cells #[.slice none 0 0] 47 (0, 0)) := blk_drew (blk_new w6 _); have hd := below_drew (below_alloc (Below.refl w6.heap.size w6) (.cells #[.slice none 0 0] 47)); with_reducible refine (HPL.out _ hd).mono ?_)); rintro E wp ⟨A3p, c3p, hl3p, hC3p, hbp, Apl, cpl, rfl, hlpl, hCpl⟩; have hd1 := below_then hd hd.size hbp; (try have HN1 := blk_below HN hbp); have HCP := Aside0.mk (And.intro hCpl hC3p); have hle := hd1.size; clear hlpl hCpl hl3p hC3p hbp; (try clear HN); clear hd)
              | (go_at_call 67; (first | (with_reducible refine (HOF.out _ _ _ _ _ _ (HCP.out).1 (HCP.out).2 hd1 (Below.refl _ _)).mono ?_) | (have HN1 : (wp.alloc (.cells #[.slice none 0 0] 47)).heap[wp.heap.size]? = some (.cells #[.slice none 0 0] 47 (0, 0)) := blk_new wp _; have hd3 := below_alloc (Below.refl wp.heap.size wp) (.cells #[.slice none 0 0] 47); have hd1' := below_alloc hd1 (.cells #[.slice none 0 0] 47); with_reducible refine (HOF.out _ _ _ _ _ _ (HCP.out).1 (HCP.out).2 hd1 hd3).mono ?_; clear hd1; have hd1 := hd1'; clear hd1' hd3)); rintro E wo ⟨Ao, co, rfl, hbo⟩; have hd2 := below_then hd1 hd1.size hbo; (try have HN2 := blk_below HN1 hbo); clear hbo; (try clear HN1); clear hd1; (try (have hk0 := (blk_cell HN2 0).trans rfl; have hf0 := blk_frozen HN2 0)))
              | fail)
          all_goals
            first
              | (have HX10 := Aside0.mk (show (wo.setCell ⟨wp.heap.size, 0, none⟩ (.slice Ao vn co)).heap[wp.heap.size]? = some (.cells #[.slice Ao vn co] 47 (0, 0)) from blk_set HN2 0 (.slice Ao vn co))
                 have hbz := hd2.setCell (p := ⟨wp.heap.size, 0, none⟩) hle (.slice Ao vn co)
                 generalize (wo.setCell ⟨wp.heap.size, 0, none⟩ (.slice Ao vn co)) = Wz at *
                 clear HN2 hk0 hf0
                 generalize wp.heap.size = b10 at *)
              | (have HX10 := Aside0.mk (show (wo.setCell ⟨w6.heap.size, 0, none⟩ (.slice Ao vn co)).heap[w6.heap.size]? = some (.cells #[.slice Ao vn co] 47 (0, 0)) from blk_set HN2 0 (.slice Ao vn co))
                 have hbz := hd2.setCell (p := ⟨w6.heap.size, 0, none⟩) (Nat.le_refl _) (.slice Ao vn co)
                 generalize (wo.setCell ⟨w6.heap.size, 0, none⟩ (.slice Ao vn co)) = Wz at *
                 have HP10 := Aside0.mk ((HP6.out).below hbz)
                 clear HN2 hk0 hf0 hbz hle hd2 HPL HOF HK HP6
                 generalize w6.heap.size = b10 at *)
              | (have HX10 := Aside0.mk (blk_new wo (.cells #[.slice Ao vn co] 47))
                 have hbz := below_alloc hd2 (.cells #[.slice Ao vn co] 47)
                 generalize (wo.alloc (.cells #[.slice Ao vn co] 47)) = Wz at *
                 generalize wo.heap.size = b10 at *)
            (try have HP10 := Aside0.mk ((HP6.out).below hbz))
            have k0 : Wz.cell? ⟨b10, 0, none⟩ = some (.slice Ao vn co) := (blk_cell HX10.out 0).trans rfl
            cases vb with
            | false =>
              have HV := Aside0.mk (HBD.out (by rw [HBO.out, HEO.out]; rfl))
              go_wp2
              go_ret
              refine ⟨?_, (HP10.out).hb⟩
              rw [HV.out]; rfl
            | true =>
            by_cases hvn : vn = 0
            · have HG := Aside0.mk (HGD.out (by rw [HBO.out, HEO.out, decide_eq_true hvn]; rfl))
              subst hvn
              go_wp2
              go_roundg (fs.length - (j + 1))
              case measure => omega
              case rel => exact ⟨j + 1, by omega, by omega, by first | rfl | (rw [wrap_succ (by omega) (by have := (HN0.out).2; omega)]; rfl), HP10, HG⟩
            · have HV := Aside0.mk (HBD.out (by rw [HBO.out, HEO.out, decide_eq_false hvn]; rfl))
              have hvz : (0 : Int) < (vn : Int) := by omega
              go_wp2
              go_ret
              refine ⟨?_, (HP10.out).hb⟩
              rw [HV.out]; rfl
        · have hltz : ¬ (j : Int) < (fs.length : Int) := by omega
          have hje : j = fs.length := by omega
          subst hje
          have HV := Aside0.mk (HSG.out (fun f hf => by obtain ⟨i, hi, rfl⟩ := List.mem_iff_getElem.1 hf; exact HOK.out i hi hi))
          go_wp2
          go_ret
          refine ⟨?_, (HP.out).hb⟩
          rw [HV.out]
          all_goals first | rfl | trivial
end Go.Proofs.YthflpbgloeimfaaGreatDoor.H
namespace Go.Proofs.YthflpbgloeimfaaGreatDoor.H
open Go.RowKit Go.Proofs.YthflpbgloeimfaaGreatDoorW.PrintWords Go.Proofs.YthflpbgloeimfaaGreatDoorW.PrintLast Go.Proofs.YthflpbgloeimfaaGreatDoorW.PrintMore
open Go.Proofs.YthflpbgloeimfaaGreatDoor.Q (S47 k47 rd_T47 z47 at_T47 S50 k50 rd_T50 z50 at_T50 S52 k52 rd_T52 at_T52 z52 S71 k71 rd_T71 at_T71)
attribute [local go_sem] max2_int min2_int max_two min_two max_three min_three max_four min_four
set_option linter.unusedVariables false
set_option linter.unusedSimpArgs false
theorem info3 : (Tryz.prog.info? 3).map (fun i => (i.zero, i.size, i.bytes)) = some (some (.int .i64 0), 1, 8) := by kernel_rfl
def ordL : List S52 → Nat
  | [] => 0
  | f :: r => max (sO f.f1) (ordL r)
theorem ordL_snoc (a : List S52) (f : S52) : ordL (a ++ [f]) = max (ordL a) (sO f.f1) := by
  induction a with
  | nil => simp [ordL]
  | cons y r ih => rw [List.cons_append, ordL, ordL, ih]; omega
def ordV (sy : List S71) (fs : List S52) : Int × Int := if schB sy fs then ((ordL fs : Int), 0) else (0, 7)
theorem schB_parts {sy : List S71} {fs : List S52} (h : schB sy fs = true) : (symsB sy = true ∧ 1 ≤ fs.length ∧ fs.length ≤ 64) ∧ (rd_T52 fs 0).f1.f0.length = 0 ∧ (∀ f ∈ fs, headOk f = true) ∧ (fs.map (·.f0)).Nodup ∧ ∀ f ∈ fs, bodyOk sy fs f = true := by
  unfold schB at h
  simp only [Bool.and_eq_true, decide_eq_true_eq, List.all_eq_true] at h
  obtain ⟨⟨⟨⟨⟨⟨h1, h2⟩, h3⟩, h4⟩, h5⟩, h6⟩, h7⟩ := h
  exact ⟨⟨h1, h2, h3⟩, h4, h5, h6, h7⟩
theorem headOk_srt {f : S52} (h : headOk f = true) : srtB f.f1 = true := by unfold headOk at h; rw [Bool.and_eq_true] at h; exact h.2
set_option maxHeartbeats 8000000 in
set_option maxRecDepth 100000 in
theorem sorderS_calls (sy : List S71) (fs : List S52) (A1 A2 : Option Addr) (c1 c2 : Nat) (w : World) (hS : Kd.C k71 w A1 sy.length sy) (hF : Kd.C k52 w A2 fs.length fs) :
    Calls Tryz.prog 24 #[.agg #[.slice A1 sy.length c1, .slice A2 fs.length c2]] w fun E w' => E = .returned (.tuple #[.int .i64 (ordV sy fs).1, .int .i64 (ordV sy fs).2]) ∧ Below w.heap.size w w' := by
  have HS := Aside0.mk hS
  have HF := Aside0.mk hF
  have HP := Aside0.mk (CB.mk (below_alloc (Below.refl w.heap.size w) (.cells #[.slice A1 sy.length c1, .slice A2 fs.length c2] 25)) (blk_new w (.cells #[.slice A1 sy.length c1, .slice A2 fs.length c2] 25)))
  have HCK := Aside0.mk (fun (W : World) (hW : Below w.heap.size w W) => scheme_calls sy fs A1 A2 c1 c2 W (Kd.C_below hS hW) (Kd.C_below hF hW))
  clear hS hF
  go_enter Tryz.func24, Tryz.ntmps24
  go_upto_region 1 with (fail)
  generalize w.alloc (.cells #[.slice A1 sy.length c1, .slice A2 fs.length c2] 25) = W1 at *
  obtain ⟨p0, p1⟩ := (HP.out).cells
  go_wp2_with fail
  refine (HCK.out W1 (HP.out).hb).mono ?_
  rintro E w2 ⟨rfl, hb⟩
  have HP2 := Aside0.mk ((HP.out).below hb)
  clear hb p0 p1 HP HCK
  obtain ⟨p0, p1⟩ := (HP2.out).cells
  cases q : schB sy fs with
  | false =>
    have HV := Aside0.mk (show ordV sy fs = (0, 7) by unfold ordV; rw [q]; rfl)
    rw [schV_bad q]
    clear q
    go_wp2
    go_ret2
    exact ⟨by rw [HV.out]; rfl, (HP2.out).hb⟩
  | true =>
    have HV := Aside0.mk (show ordV sy fs = ((ordL fs : Int), 0) by unfold ordV; rw [q]; rfl)
    have HQ := Aside0.mk (schB_parts q)
    rw [schV_good q]
    clear q
    go_wp2
    clear p0 p1
    go_loopg [5, 18] fs.length (fun gg v5 v18 wi => ∃ (j : Nat), j ≤ fs.length ∧ fs.length - j ≤ gg ∧ v5 = .int .i64 (ordL (fs.take j) : Int) ∧ v18 = .int .i64 j ∧ Aside0 (Below w.heap.size w wi))
    case atStart => exact ⟨0, by omega, by omega, by rw [List.take_zero, ordL]; rfl, rfl, ⟨(HP2.out).hb⟩⟩
    case round =>
      clear HP2
      obtain ⟨j, hj, hgg, rfl, rfl, HB⟩ := hrel
      by_cases hlt : j < fs.length
      · have hltz : (j : Int) < (fs.length : Int) := by omega
        obtain ⟨ad, As, cs, At, ct, e, hx0, hx1, hx2, hx3, hx4, hls, hCs, hlt4, hCt⟩ := at_T52 HF.out (j : Int) (by omega) hltz
        subst e
        rw [rdF_at hlt] at hx0 hx1 hx2 hx3 hx4 hls hCs hlt4 hCt
        rw [Int.toNat_natCast] at hx0 hx1 hx2 hx3 hx4
        replace hx0 := ((HB.out).cell (World.block_lt_of_cell? w _ hx0)).trans hx0
        replace hx1 := ((HB.out).cell (World.block_lt_of_cell? w _ hx1)).trans hx1
        replace hx2 := ((HB.out).cell (World.block_lt_of_cell? w _ hx2)).trans hx2
        replace hx3 := ((HB.out).cell (World.block_lt_of_cell? w _ hx3)).trans hx3
        replace hx4 := ((HB.out).cell (World.block_lt_of_cell? w _ hx4)).trans hx4
        have HT := Aside0.mk (show ordL (fs.take (j + 1)) = max (ordL (fs.take j)) (sO fs[j].f1) by rw [takeS hlt, ordL_snoc])
        have HSB := Aside0.mk (headOk_srt ((HQ.out).2.2.1 _ (List.getElem_mem hlt)))
        have HCs := Aside0.mk hCs
        have HLs := Aside0.mk hls
        clear hCs hls hlt4 hCt
        generalize fs[j] = f at *
        go_upto_region 8 with (fail)
        have HX5 := Aside0.mk (blk_new wr (.cells #[.string f.f0, .slice As f.f1.f0.length cs, .int .i64 f.f2.f0, .int .i64 f.f2.f1, .slice At f.f2.f2.length ct] 52))
        have HB5 := Aside0.mk (below_alloc HB.out (.cells #[.string f.f0, .slice As f.f1.f0.length cs, .int .i64 f.f2.f0, .int .i64 f.f2.f1, .slice At f.f2.f2.length ct] 52))
        clear hx0 hx1 hx2 hx3 hx4 HB
        generalize (wr.alloc (.cells #[.string f.f0, .slice As f.f1.f0.length cs, .int .i64 f.f2.f0, .int .i64 f.f2.f1, .slice At f.f2.f2.length ct] 52)) = w5 at *
        generalize wr.heap.size = b7 at *
        have m1 : w5.cell? ⟨b7, 1, none⟩ = some (.slice As f.f1.f0.length cs) := (blk_cell HX5.out 1).trans rfl
        have HOC := Aside0.mk (sOrder_calls f.f1 As cs w5 (Kd.C_below HCs.out HB5.out) HLs.out)
        go_wp2_with fail
        refine (HOC.out).mono ?_
        rintro E w6 ⟨rfl, hb⟩
        have HB6 := Aside0.mk (below_then HB5.out (HB5.out).size hb)
        clear hb m1 HX5 HB5 HOC
        rw [show sOrdV f.f1 = ((sO f.f1 : Int), 0) by unfold sOrdV; rw [HSB.out]; rfl]
        by_cases hmx : (ordL (fs.take j) : Int) < (sO f.f1 : Int)
        · have HE := Aside0.mk (show ordL (fs.take (j + 1)) = sO f.f1 by rw [HT.out]; omega)
          go_wp2
          go_roundg (fs.length - (j + 1))
          case measure => omega
          case rel => exact ⟨j + 1, by omega, by omega, by rw [HE.out], by first | rfl | (rw [wrap_succ (by omega) (by have := (HQ.out).1.2.2; omega)]; rfl), HB6⟩
        · have HE := Aside0.mk (show ordL (fs.take (j + 1)) = ordL (fs.take j) by rw [HT.out]; omega)
          go_wp2
          go_roundg (fs.length - (j + 1))
          case measure => omega
          case rel => exact ⟨j + 1, by omega, by omega, by rw [HE.out], by first | rfl | (rw [wrap_succ (by omega) (by have := (HQ.out).1.2.2; omega)]; rfl), HB6⟩
      · have hltz : ¬ (j : Int) < (fs.length : Int) := by omega
        have hje : j = fs.length := by omega
        subst hje
        rw [List.take_length]
        go_wp2
        go_ret2
        refine ⟨?_, HB.out⟩
        rw [HV.out]
        all_goals first | rfl | trivial
end Go.Proofs.YthflpbgloeimfaaGreatDoor.H
namespace Go.Proofs
open Go.Shelf
set_option linter.unusedVariables false
def Tryz.lays170_ren : Go.Shelf.Ren := ⟨fun | 170 => 49 | n => n, fun | 70 => 66 | 3 => 3 | 0 => 0 | 72 => 69 | 37 => 67 | 5 => 5 | n => n, fun | n => n⟩
theorem Tryz.lays170 : Go.Proofs.Lays.n170 Tryz.prog Tryz.lays170_ren := {
  mixed := by kernel_rfl
  f170 := Tryz.func49.trans (congrArg some (by kernel_rfl))
  t0 := Tryz.underlying0
  a0 := Tryz.isAgg0
  z0 := Tryz.sizeOf0
  v0 := Tryz.zeroValue0
  t3 := Tryz.underlying3
  a3 := Tryz.isAgg3
  z3 := Tryz.sizeOf3
  v3 := Tryz.zeroValue3
  t37 := Tryz.underlying67
  a37 := Tryz.isAgg67
  z37 := Tryz.sizeOf67
  v37 := Tryz.zeroValue67
  t70 := Tryz.underlying66
  a70 := Tryz.isAgg66
  z70 := Tryz.sizeOf66
  v70 := Tryz.zeroValue66
  t72 := Tryz.underlying69
  a72 := Tryz.isAgg69
  z72 := Tryz.sizeOf69
  v72 := Tryz.zeroValue69 }
open Go.RowKit in
theorem Tryz.Builder_Len (B b : Nat) (bs : List Value) (w : World) (h : Lib.IsBuilder 69 5 B b bs w) :
    Calls Tryz.prog 49 #[.pointer (some ⟨b, 0, none⟩)] w fun e w' => e = .returned (.int .i64 bs.length) ∧ w' = w := Any.Builder_Len Tryz.lays170 B b bs w h
def Tryz.lays169_ren : Go.Shelf.Ren := ⟨fun | 169 => 50 | n => n, fun | 70 => 66 | 9 => 9 | 0 => 0 | 72 => 69 | 37 => 67 | 127 => 135 | 3 => 3 | 5 => 5 | n => n, fun | n => n⟩
theorem Tryz.lays169 : Go.Proofs.Lays.n169 Tryz.prog Tryz.lays169_ren := {
  mixed := by kernel_rfl
  f169 := Tryz.func50.trans (congrArg some (by kernel_rfl))
  t0 := Tryz.underlying0
  a0 := Tryz.isAgg0
  z0 := Tryz.sizeOf0
  v0 := Tryz.zeroValue0
  t3 := Tryz.underlying3
  a3 := Tryz.isAgg3
  z3 := Tryz.sizeOf3
  v3 := Tryz.zeroValue3
  t9 := Tryz.underlying9
  a9 := Tryz.isAgg9
  z9 := Tryz.sizeOf9
  v9 := Tryz.zeroValue9
  t37 := Tryz.underlying67
  a37 := Tryz.isAgg67
  z37 := Tryz.sizeOf67
  v37 := Tryz.zeroValue67
  t70 := Tryz.underlying66
  a70 := Tryz.isAgg66
  z70 := Tryz.sizeOf66
  v70 := Tryz.zeroValue66
  t72 := Tryz.underlying69
  a72 := Tryz.isAgg69
  z72 := Tryz.sizeOf69
  v72 := Tryz.zeroValue69
  t127 := Tryz.underlying135
  a127 := Tryz.isAgg135
  z127 := Tryz.sizeOf135
  v127 := Tryz.zeroValue135 }
theorem Tryz.Builder_Extra_169 : Builder.Extra Tryz.prog Tryz.lays169_ren := {
  sizeBuilder := by kernel_rfl
  liesBuilder := by kernel_rfl
  t5 := Tryz.underlying5
  a5 := Tryz.isAgg5
  z5 := Tryz.sizeOf5
  v5 := Tryz.zeroValue5
  infoByte := by kernel_rfl
  cellsByte := by kernel_rfl
  sizeByte := by kernel_rfl
  neB5 := by decide }
open Go.RowKit in
theorem Tryz.Builder_String_any (B b : Nat) (l : List UInt8) (w : World) (h : Lib.IsBuilder 69 5 B b (Lib.byteCells l) w) (hBw : B ≤ w.heap.size) :
    Calls Tryz.prog 50 #[.pointer (some ⟨b, 0, none⟩)] w fun e w' => e = .returned (.string ⟨l.toArray⟩) ∧ Below B w w' := Any.Builder_String_any Tryz.lays169 Tryz.Builder_Extra_169 B b l w h hBw
def Tryz.lays160_ren : Go.Shelf.Ren := ⟨fun | 160 => 127 | 232 => 154 | 231 => 153 | 227 => 155 | 234 => 157 | 233 => 156 | 236 => 159 | 235 => 158 | 228 => 178 | 271 => 180 | 151 => 179 | 197 => 151 | 120 => 193 | 152 => 188 | 260 => 177 | 137 => 197 | 119 => 198 | 224 => 164 | 225 => 163 | 217 => 162 | 266 => 186 | n => n, fun | 9 => 9 | 4 => 4 | 3 => 3 | 5 => 5 | 117 => 187 | 116 => 186 | 0 => 0 | 124 => 190 | 21 => 21 | 105 => 181 | 46 => 154 | 119 => 215 | 139 => 218 | 138 => 217 | n => n, fun | 3 => 2 | 4 => 3 | n => n⟩
theorem Tryz.lays160 : Go.Proofs.Lays.n160 Tryz.prog Tryz.lays160_ren := {
  mixed := by kernel_rfl
  f119 := Tryz.func198.trans (congrArg some (by kernel_rfl))
  f120 := Tryz.func193.trans (congrArg some (by kernel_rfl))
  f137 := Tryz.func197.trans (congrArg some (by kernel_rfl))
  f151 := Tryz.func179.trans (congrArg some (by kernel_rfl))
  f152 := Tryz.func188.trans (congrArg some (by kernel_rfl))
  f160 := Tryz.func127.trans (congrArg some (by kernel_rfl))
  f197 := Tryz.func151.trans (congrArg some (by kernel_rfl))
  f217 := Tryz.func162.trans (congrArg some (by kernel_rfl))
  f224 := Tryz.func164.trans (congrArg some (by kernel_rfl))
  f225 := Tryz.func163.trans (congrArg some (by kernel_rfl))
  f227 := Tryz.func155.trans (congrArg some (by kernel_rfl))
  f228 := Tryz.func178.trans (congrArg some (by kernel_rfl))
  f231 := Tryz.func153.trans (congrArg some (by kernel_rfl))
  f232 := Tryz.func154.trans (congrArg some (by kernel_rfl))
  f233 := Tryz.func156.trans (congrArg some (by kernel_rfl))
  f234 := Tryz.func157.trans (congrArg some (by kernel_rfl))
  f235 := Tryz.func158.trans (congrArg some (by kernel_rfl))
  f236 := Tryz.func159.trans (congrArg some (by kernel_rfl))
  f260 := Tryz.func177.trans (congrArg some (by kernel_rfl))
  f266 := Tryz.func186.trans (congrArg some (by kernel_rfl))
  f271 := Tryz.func180.trans (congrArg some (by kernel_rfl))
  t0 := Tryz.underlying0
  a0 := Tryz.isAgg0
  z0 := Tryz.sizeOf0
  v0 := Tryz.zeroValue0
  t3 := Tryz.underlying3
  a3 := Tryz.isAgg3
  z3 := Tryz.sizeOf3
  v3 := Tryz.zeroValue3
  t4 := Tryz.underlying4
  a4 := Tryz.isAgg4
  z4 := Tryz.sizeOf4
  v4 := Tryz.zeroValue4
  t5 := Tryz.underlying5
  a5 := Tryz.isAgg5
  z5 := Tryz.sizeOf5
  v5 := Tryz.zeroValue5
  t9 := Tryz.underlying9
  a9 := Tryz.isAgg9
  z9 := Tryz.sizeOf9
  v9 := Tryz.zeroValue9
  t21 := Tryz.underlying21
  a21 := Tryz.isAgg21
  z21 := Tryz.sizeOf21
  v21 := Tryz.zeroValue21
  t46 := Tryz.underlying154
  a46 := Tryz.isAgg154
  z46 := Tryz.sizeOf154
  v46 := Tryz.zeroValue154
  t105 := Tryz.underlying181
  a105 := Tryz.isAgg181
  z105 := Tryz.sizeOf181
  v105 := Tryz.zeroValue181
  t116 := Tryz.underlying186
  a116 := Tryz.isAgg186
  z116 := Tryz.sizeOf186
  t117 := Tryz.underlying187
  a117 := Tryz.isAgg187
  z117 := Tryz.sizeOf187
  v117 := Tryz.zeroValue187
  t119 := Tryz.underlying215
  a119 := Tryz.isAgg215
  z119 := Tryz.sizeOf215
  t124 := Tryz.underlying190
  a124 := Tryz.isAgg190
  z124 := Tryz.sizeOf190
  v124 := Tryz.zeroValue190
  t138 := Tryz.underlying217
  a138 := Tryz.isAgg217
  z138 := Tryz.sizeOf217
  v138 := Tryz.zeroValue217
  t139 := Tryz.underlying218
  a139 := Tryz.isAgg218
  z139 := Tryz.sizeOf218
  v139 := Tryz.zeroValue218
  g3 := by kernel_rfl
  g4 := by kernel_rfl }
def Tryz.lays119_ren : Go.Shelf.Ren := ⟨fun | 119 => 198 | n => n, fun | 21 => 21 | 4 => 4 | n => n, fun | n => n⟩
theorem Tryz.lays119 : Go.Proofs.Lays.n119 Tryz.prog Tryz.lays119_ren := {
  mixed := by kernel_rfl
  f119 := Tryz.func198.trans (congrArg some (by kernel_rfl))
  t4 := Tryz.underlying4
  a4 := Tryz.isAgg4
  z4 := Tryz.sizeOf4
  v4 := Tryz.zeroValue4
  t21 := Tryz.underlying21
  a21 := Tryz.isAgg21
  z21 := Tryz.sizeOf21
  v21 := Tryz.zeroValue21 }
theorem Tryz.utf8_ValidRune (r : Int) (w : World) :
    Calls Tryz.prog 198 #[.int .i32 r] w fun e w' => e = .returned (.bool (Lib.validRune r)) ∧ w' = w := Any.utf8_ValidRune Tryz.lays119 r w
def Tryz.lays137_ren : Go.Shelf.Ren := ⟨fun | 137 => 197 | 217 => 162 | 266 => 186 | n => n, fun | 9 => 9 | 5 => 5 | 3 => 3 | n => n, fun | n => n⟩
theorem Tryz.lays137 : Go.Proofs.Lays.n137 Tryz.prog Tryz.lays137_ren := {
  mixed := by kernel_rfl
  f137 := Tryz.func197.trans (congrArg some (by kernel_rfl))
  f217 := Tryz.func162.trans (congrArg some (by kernel_rfl))
  f266 := Tryz.func186.trans (congrArg some (by kernel_rfl))
  t3 := Tryz.underlying3
  a3 := Tryz.isAgg3
  z3 := Tryz.sizeOf3
  v3 := Tryz.zeroValue3
  t5 := Tryz.underlying5
  a5 := Tryz.isAgg5
  z5 := Tryz.sizeOf5
  v5 := Tryz.zeroValue5
  t9 := Tryz.underlying9
  a9 := Tryz.isAgg9
  z9 := Tryz.sizeOf9
  v9 := Tryz.zeroValue9 }
open Go.RowKit in
theorem Tryz.strings_IndexByte (s : ByteArray) (c : Int) (w : World) :
    Calls Tryz.prog 197 #[.string s, .int .u8 c] w fun e w' => e = .returned (.int .i64 (Lib.indexByte s.data.toList c.toNat.toUInt8)) ∧ w' = w := Any.strings_IndexByte Tryz.lays137 s c w
def Tryz.lays103_ren : Go.Shelf.Ren := ⟨fun | 103 => 56 | 210 => 99 | 206 => 126 | n => n, fun | 9 => 9 | 4 => 4 | 24 => 93 | 3 => 3 | n => n, fun | n => n⟩
theorem Tryz.lays103 : Go.Proofs.Lays.n103 Tryz.prog Tryz.lays103_ren := {
  mixed := by kernel_rfl
  f103 := Tryz.func56.trans (congrArg some (by kernel_rfl))
  f206 := Tryz.func126.trans (congrArg some (by kernel_rfl))
  f210 := Tryz.func99.trans (congrArg some (by kernel_rfl))
  t3 := Tryz.underlying3
  a3 := Tryz.isAgg3
  z3 := Tryz.sizeOf3
  v3 := Tryz.zeroValue3
  t4 := Tryz.underlying4
  a4 := Tryz.isAgg4
  z4 := Tryz.sizeOf4
  v4 := Tryz.zeroValue4
  t9 := Tryz.underlying9
  a9 := Tryz.isAgg9
  z9 := Tryz.sizeOf9
  v9 := Tryz.zeroValue9
  t24 := Tryz.underlying93
  a24 := Tryz.isAgg93
  z24 := Tryz.sizeOf93
  v24 := Tryz.zeroValue93 }
open Go.RowKit in
theorem Tryz.strings_CutPrefix (s p : ByteArray) (w : World) :
    Calls Tryz.prog 56 #[.string s, .string p] w fun e w' => e = .returned (.tuple #[.string ⟨(Lib.trimPrefix s.data.toList p.data.toList).toArray⟩, .bool (Lib.hasPrefix s.data.toList p.data.toList)]) ∧ w' = w := Any.strings_CutPrefix Tryz.lays103 s p w
def Tryz.lays172_ren : Go.Shelf.Ren := ⟨fun | 172 => 128 | 244 => 160 | 245 => 161 | 247 => 181 | 279 => 182 | 280 => 183 | 281 => 184 | 282 => 185 | 287 => 194 | 316 => 195 | 171 => 45 | 205 => 196 | 321 => 199 | 322 => 200 | 243 => 96 | 246 => 122 | 283 => 146 | 284 => 147 | 285 => 148 | 286 => 149 | 129 => 145 | 317 => 173 | 318 => 174 | 319 => 175 | 320 => 176 | 337 => 191 | 338 => 192 | n => n, fun | 9 => 9 | 3 => 3 | 75 => 73 | 76 => 74 | 4 => 4 | 5 => 5 | 167 => 204 | 37 => 67 | 0 => 0 | 85 => 205 | 2 => 2 | 168 => 207 | 53 => 175 | 175 => 219 | 46 => 154 | 210 => 223 | 127 => 135 | 145 => 231 | 143 => 229 | 21 => 21 | 171 => 176 | 173 => 178 | 212 => 200 | 51 => 173 | 20 => 20 | 213 => 201 | 232 => 226 | 233 => 227 | 80 => 81 | n => n, fun | 15 => 4 | 16 => 5 | 17 => 1 | 18 => 6 | 19 => 7 | n => n⟩
theorem Tryz.lays172 : Go.Proofs.Lays.n172 Tryz.prog Tryz.lays172_ren := {
  mixed := by kernel_rfl
  f129 := Tryz.func145.trans (congrArg some (by kernel_rfl))
  f171 := Tryz.func45.trans (congrArg some (by kernel_rfl))
  f172 := Tryz.func128.trans (congrArg some (by kernel_rfl))
  f205 := Tryz.func196.trans (congrArg some (by kernel_rfl))
  f243 := Tryz.func96.trans (congrArg some (by kernel_rfl))
  f244 := Tryz.func160.trans (congrArg some (by kernel_rfl))
  f245 := Tryz.func161.trans (congrArg some (by kernel_rfl))
  f246 := Tryz.func122.trans (congrArg some (by kernel_rfl))
  f247 := Tryz.func181.trans (congrArg some (by kernel_rfl))
  f279 := Tryz.func182.trans (congrArg some (by kernel_rfl))
  f280 := Tryz.func183.trans (congrArg some (by kernel_rfl))
  f281 := Tryz.func184.trans (congrArg some (by kernel_rfl))
  f282 := Tryz.func185.trans (congrArg some (by kernel_rfl))
  f283 := Tryz.func146.trans (congrArg some (by kernel_rfl))
  f284 := Tryz.func147.trans (congrArg some (by kernel_rfl))
  f285 := Tryz.func148.trans (congrArg some (by kernel_rfl))
  f286 := Tryz.func149.trans (congrArg some (by kernel_rfl))
  f287 := Tryz.func194.trans (congrArg some (by kernel_rfl))
  f316 := Tryz.func195.trans (congrArg some (by kernel_rfl))
  f317 := Tryz.func173.trans (congrArg some (by kernel_rfl))
  f318 := Tryz.func174.trans (congrArg some (by kernel_rfl))
  f319 := Tryz.func175.trans (congrArg some (by kernel_rfl))
  f320 := Tryz.func176.trans (congrArg some (by kernel_rfl))
  f321 := Tryz.func199.trans (congrArg some (by kernel_rfl))
  f322 := Tryz.func200.trans (congrArg some (by kernel_rfl))
  f337 := Tryz.func191.trans (congrArg some (by kernel_rfl))
  f338 := Tryz.func192.trans (congrArg some (by kernel_rfl))
  t0 := Tryz.underlying0
  a0 := Tryz.isAgg0
  z0 := Tryz.sizeOf0
  v0 := Tryz.zeroValue0
  t2 := Tryz.underlying2
  a2 := Tryz.isAgg2
  z2 := Tryz.sizeOf2
  v2 := Tryz.zeroValue2
  t3 := Tryz.underlying3
  a3 := Tryz.isAgg3
  z3 := Tryz.sizeOf3
  v3 := Tryz.zeroValue3
  t4 := Tryz.underlying4
  a4 := Tryz.isAgg4
  z4 := Tryz.sizeOf4
  v4 := Tryz.zeroValue4
  t5 := Tryz.underlying5
  a5 := Tryz.isAgg5
  z5 := Tryz.sizeOf5
  v5 := Tryz.zeroValue5
  t9 := Tryz.underlying9
  a9 := Tryz.isAgg9
  z9 := Tryz.sizeOf9
  v9 := Tryz.zeroValue9
  t20 := Tryz.underlying20
  a20 := Tryz.isAgg20
  z20 := Tryz.sizeOf20
  v20 := Tryz.zeroValue20
  t21 := Tryz.underlying21
  a21 := Tryz.isAgg21
  z21 := Tryz.sizeOf21
  v21 := Tryz.zeroValue21
  t37 := Tryz.underlying67
  a37 := Tryz.isAgg67
  z37 := Tryz.sizeOf67
  v37 := Tryz.zeroValue67
  t46 := Tryz.underlying154
  a46 := Tryz.isAgg154
  z46 := Tryz.sizeOf154
  v46 := Tryz.zeroValue154
  t51 := Tryz.underlying173
  a51 := Tryz.isAgg173
  z51 := Tryz.sizeOf173
  v51 := Tryz.zeroValue173
  t53 := Tryz.underlying175
  a53 := Tryz.isAgg175
  z53 := Tryz.sizeOf175
  v53 := Tryz.zeroValue175
  t75 := Tryz.underlying73
  a75 := Tryz.isAgg73
  z75 := Tryz.sizeOf73
  v75 := Tryz.zeroValue73
  t76 := Tryz.underlying74
  a76 := Tryz.isAgg74
  z76 := Tryz.sizeOf74
  v76 := Tryz.zeroValue74
  t85 := Tryz.underlying205
  a85 := Tryz.isAgg205
  z85 := Tryz.sizeOf205
  v85 := Tryz.zeroValue205
  t127 := Tryz.underlying135
  a127 := Tryz.isAgg135
  z127 := Tryz.sizeOf135
  v127 := Tryz.zeroValue135
  t143 := Tryz.underlying229
  a143 := Tryz.isAgg229
  z143 := Tryz.sizeOf229
  v143 := Tryz.zeroValue229
  t145 := Tryz.underlying231
  a145 := Tryz.isAgg231
  z145 := Tryz.sizeOf231
  v145 := Tryz.zeroValue231
  t167 := Tryz.underlying204
  a167 := Tryz.isAgg204
  z167 := Tryz.sizeOf204
  v167 := Tryz.zeroValue204
  t168 := Tryz.underlying207
  a168 := Tryz.isAgg207
  z168 := Tryz.sizeOf207
  v168 := Tryz.zeroValue207
  t171 := Tryz.underlying176
  a171 := Tryz.isAgg176
  z171 := Tryz.sizeOf176
  v171 := Tryz.zeroValue176
  t173 := Tryz.underlying178
  a173 := Tryz.isAgg178
  z173 := Tryz.sizeOf178
  v173 := Tryz.zeroValue178
  t175 := Tryz.underlying219
  a175 := Tryz.isAgg219
  z175 := Tryz.sizeOf219
  v175 := Tryz.zeroValue219
  t210 := Tryz.underlying223
  a210 := Tryz.isAgg223
  z210 := Tryz.sizeOf223
  v210 := Tryz.zeroValue223
  t212 := Tryz.underlying200
  a212 := Tryz.isAgg200
  z212 := Tryz.sizeOf200
  v212 := Tryz.zeroValue200
  t213 := Tryz.underlying201
  a213 := Tryz.isAgg201
  z213 := Tryz.sizeOf201
  t232 := Tryz.underlying226
  a232 := Tryz.isAgg226
  z232 := Tryz.sizeOf226
  v232 := Tryz.zeroValue226
  t233 := Tryz.underlying227
  a233 := Tryz.isAgg227
  z233 := Tryz.sizeOf227
  v233 := Tryz.zeroValue227
  g15 := by kernel_rfl
  g16 := by kernel_rfl
  g17 := by kernel_rfl
  g18 := by kernel_rfl
  g19 := by kernel_rfl }
open Go.RowKit in
theorem Tryz.strconv_Atoi (s : ByteArray) (n : Int) (hl : s.size ≤ 18) (h : Lib.atoi s.data.toList = some n) (w : World) :
    Calls Tryz.prog 128 #[.string s] w fun e w' => e = .returned (.tuple #[.int .i64 n, .nilIface]) ∧ ∃ t, w' = Lib.bytesWorld w 5 t := Any.strconv_Atoi Tryz.lays172 s n hl h w
def Tryz.lays171_ren : Go.Shelf.Ren := ⟨fun | 171 => 45 | 243 => 96 | 246 => 122 | 283 => 146 | 284 => 147 | 285 => 148 | 286 => 149 | 129 => 145 | 317 => 173 | 318 => 174 | 319 => 175 | 320 => 176 | 337 => 191 | 338 => 192 | n => n, fun | 3 => 3 | 9 => 9 | 2 => 2 | 4 => 4 | 171 => 176 | 0 => 0 | 53 => 175 | 37 => 67 | 5 => 5 | 173 => 178 | 212 => 200 | 51 => 173 | 20 => 20 | 213 => 201 | 46 => 154 | 232 => 226 | 233 => 227 | n => n, fun | 17 => 1 | 18 => 6 | 19 => 7 | n => n⟩
theorem Tryz.lays171 : Go.Proofs.Lays.n171 Tryz.prog Tryz.lays171_ren := {
  mixed := by kernel_rfl
  f129 := Tryz.func145.trans (congrArg some (by kernel_rfl))
  f171 := Tryz.func45.trans (congrArg some (by kernel_rfl))
  f243 := Tryz.func96.trans (congrArg some (by kernel_rfl))
  f246 := Tryz.func122.trans (congrArg some (by kernel_rfl))
  f283 := Tryz.func146.trans (congrArg some (by kernel_rfl))
  f284 := Tryz.func147.trans (congrArg some (by kernel_rfl))
  f285 := Tryz.func148.trans (congrArg some (by kernel_rfl))
  f286 := Tryz.func149.trans (congrArg some (by kernel_rfl))
  f317 := Tryz.func173.trans (congrArg some (by kernel_rfl))
  f318 := Tryz.func174.trans (congrArg some (by kernel_rfl))
  f319 := Tryz.func175.trans (congrArg some (by kernel_rfl))
  f320 := Tryz.func176.trans (congrArg some (by kernel_rfl))
  f337 := Tryz.func191.trans (congrArg some (by kernel_rfl))
  f338 := Tryz.func192.trans (congrArg some (by kernel_rfl))
  t0 := Tryz.underlying0
  a0 := Tryz.isAgg0
  z0 := Tryz.sizeOf0
  v0 := Tryz.zeroValue0
  t2 := Tryz.underlying2
  a2 := Tryz.isAgg2
  z2 := Tryz.sizeOf2
  v2 := Tryz.zeroValue2
  t3 := Tryz.underlying3
  a3 := Tryz.isAgg3
  z3 := Tryz.sizeOf3
  v3 := Tryz.zeroValue3
  t4 := Tryz.underlying4
  a4 := Tryz.isAgg4
  z4 := Tryz.sizeOf4
  v4 := Tryz.zeroValue4
  t5 := Tryz.underlying5
  a5 := Tryz.isAgg5
  z5 := Tryz.sizeOf5
  v5 := Tryz.zeroValue5
  t9 := Tryz.underlying9
  a9 := Tryz.isAgg9
  z9 := Tryz.sizeOf9
  v9 := Tryz.zeroValue9
  t20 := Tryz.underlying20
  a20 := Tryz.isAgg20
  z20 := Tryz.sizeOf20
  v20 := Tryz.zeroValue20
  t37 := Tryz.underlying67
  a37 := Tryz.isAgg67
  z37 := Tryz.sizeOf67
  v37 := Tryz.zeroValue67
  t46 := Tryz.underlying154
  a46 := Tryz.isAgg154
  z46 := Tryz.sizeOf154
  v46 := Tryz.zeroValue154
  t51 := Tryz.underlying173
  a51 := Tryz.isAgg173
  z51 := Tryz.sizeOf173
  v51 := Tryz.zeroValue173
  t53 := Tryz.underlying175
  a53 := Tryz.isAgg175
  z53 := Tryz.sizeOf175
  v53 := Tryz.zeroValue175
  t171 := Tryz.underlying176
  a171 := Tryz.isAgg176
  z171 := Tryz.sizeOf176
  v171 := Tryz.zeroValue176
  t173 := Tryz.underlying178
  a173 := Tryz.isAgg178
  z173 := Tryz.sizeOf178
  v173 := Tryz.zeroValue178
  t212 := Tryz.underlying200
  a212 := Tryz.isAgg200
  z212 := Tryz.sizeOf200
  v212 := Tryz.zeroValue200
  t213 := Tryz.underlying201
  a213 := Tryz.isAgg201
  z213 := Tryz.sizeOf201
  t232 := Tryz.underlying226
  a232 := Tryz.isAgg226
  z232 := Tryz.sizeOf226
  v232 := Tryz.zeroValue226
  t233 := Tryz.underlying227
  a233 := Tryz.isAgg227
  z233 := Tryz.sizeOf227
  v233 := Tryz.zeroValue227
  g17 := by kernel_rfl
  g18 := by kernel_rfl
  g19 := by kernel_rfl }
open Go.RowKit Go.Sort Go.Lib in
theorem Tryz.strconv_Itoa_small (i : Nat) (hi : i < 100) (w : World) :
    Calls Tryz.prog 45 #[.int .i64 i] w fun e w' => e = .returned (.string ⟨(Lib.decDigits i).toArray⟩) ∧ w' = w := Any.strconv_Itoa_small Tryz.lays171 i hi w
def Tryz.lays145_ren : Go.Shelf.Ren := ⟨fun | 145 => 58 | 220 => 101 | 219 => 129 | 217 => 162 | 225 => 163 | 224 => 164 | 267 => 165 | 266 => 186 | 314 => 187 | n => n, fun | 9 => 9 | 4 => 4 | 59 => 97 | 3 => 3 | 5 => 5 | 46 => 154 | 146 => 210 | 51 => 173 | n => n, fun | 1 => 0 | n => n⟩
theorem Tryz.lays145 : Go.Proofs.Lays.n145 Tryz.prog Tryz.lays145_ren := {
  mixed := by kernel_rfl
  f145 := Tryz.func58.trans (congrArg some (by kernel_rfl))
  f217 := Tryz.func162.trans (congrArg some (by kernel_rfl))
  f219 := Tryz.func129.trans (congrArg some (by kernel_rfl))
  f220 := Tryz.func101.trans (congrArg some (by kernel_rfl))
  f224 := Tryz.func164.trans (congrArg some (by kernel_rfl))
  f225 := Tryz.func163.trans (congrArg some (by kernel_rfl))
  f266 := Tryz.func186.trans (congrArg some (by kernel_rfl))
  f267 := Tryz.func165.trans (congrArg some (by kernel_rfl))
  f314 := Tryz.func187.trans (congrArg some (by kernel_rfl))
  t3 := Tryz.underlying3
  a3 := Tryz.isAgg3
  z3 := Tryz.sizeOf3
  v3 := Tryz.zeroValue3
  t4 := Tryz.underlying4
  a4 := Tryz.isAgg4
  z4 := Tryz.sizeOf4
  v4 := Tryz.zeroValue4
  t5 := Tryz.underlying5
  a5 := Tryz.isAgg5
  z5 := Tryz.sizeOf5
  v5 := Tryz.zeroValue5
  t9 := Tryz.underlying9
  a9 := Tryz.isAgg9
  z9 := Tryz.sizeOf9
  v9 := Tryz.zeroValue9
  t46 := Tryz.underlying154
  a46 := Tryz.isAgg154
  z46 := Tryz.sizeOf154
  v46 := Tryz.zeroValue154
  t51 := Tryz.underlying173
  a51 := Tryz.isAgg173
  z51 := Tryz.sizeOf173
  v51 := Tryz.zeroValue173
  t59 := Tryz.underlying97
  a59 := Tryz.isAgg97
  z59 := Tryz.sizeOf97
  v59 := Tryz.zeroValue97
  t146 := Tryz.underlying210
  a146 := Tryz.isAgg210
  z146 := Tryz.sizeOf210
  v146 := Tryz.zeroValue210
  g1 := by kernel_rfl }
open Go.RowKit Go.Lib in
theorem Tryz.strings_Cut (s sep : ByteArray) (m : Int) (w : World) (hs : s.size < 4294967281) (hm : w.cell? ⟨0, 0, none⟩ = some (.int .i64 m)) :
    Calls Tryz.prog 58 #[.string s, .string sep] w fun e w' => e = .returned (.tuple #[.string ⟨(Lib.cut s.data.toList sep.data.toList).1.toArray⟩, .string ⟨(Lib.cut s.data.toList sep.data.toList).2.1.toArray⟩, .bool (Lib.cut s.data.toList sep.data.toList).2.2]) ∧ ∃ n, w' = w.drewN n := Any.strings_Cut Tryz.lays145 s sep m w hs hm
def Tryz.lays189_ren : Go.Shelf.Ren := ⟨fun | 189 => 82 | 125 => 119 | 257 => 118 | 128 => 144 | 129 => 145 | 294 => 135 | 295 => 136 | 296 => 137 | 297 => 138 | 298 => 139 | 299 => 140 | 216 => 141 | 300 => 142 | 301 => 143 | 328 => 167 | 329 => 168 | 330 => 169 | 331 => 170 | 332 => 171 | 215 => 172 | 343 => 190 | n => n, fun | 28 => 39 | 3 => 3 | 46 => 154 | 0 => 0 | 51 => 173 | 53 => 175 | 4 => 4 | 183 => 166 | 182 => 165 | 131 => 96 | 5 => 5 | 9 => 9 | 218 => 193 | 222 => 133 | 228 => 213 | 229 => 61 | n => n, fun | n => n⟩
theorem Tryz.lays189 : Go.Proofs.Lays.n189 Tryz.prog Tryz.lays189_ren := {
  mixed := by kernel_rfl
  f125 := Tryz.func119.trans (congrArg some (by kernel_rfl))
  f128 := Tryz.func144.trans (congrArg some (by kernel_rfl))
  f129 := Tryz.func145.trans (congrArg some (by kernel_rfl))
  f189 := Tryz.func82.trans (congrArg some (by kernel_rfl))
  f215 := Tryz.func172.trans (congrArg some (by kernel_rfl))
  f216 := Tryz.func141.trans (congrArg some (by kernel_rfl))
  f257 := Tryz.func118.trans (congrArg some (by kernel_rfl))
  f294 := Tryz.func135.trans (congrArg some (by kernel_rfl))
  f295 := Tryz.func136.trans (congrArg some (by kernel_rfl))
  f296 := Tryz.func137.trans (congrArg some (by kernel_rfl))
  f297 := Tryz.func138.trans (congrArg some (by kernel_rfl))
  f298 := Tryz.func139.trans (congrArg some (by kernel_rfl))
  f299 := Tryz.func140.trans (congrArg some (by kernel_rfl))
  f300 := Tryz.func142.trans (congrArg some (by kernel_rfl))
  f301 := Tryz.func143.trans (congrArg some (by kernel_rfl))
  f328 := Tryz.func167.trans (congrArg some (by kernel_rfl))
  f329 := Tryz.func168.trans (congrArg some (by kernel_rfl))
  f330 := Tryz.func169.trans (congrArg some (by kernel_rfl))
  f331 := Tryz.func170.trans (congrArg some (by kernel_rfl))
  f332 := Tryz.func171.trans (congrArg some (by kernel_rfl))
  f343 := Tryz.func190.trans (congrArg some (by kernel_rfl))
  t0 := Tryz.underlying0
  a0 := Tryz.isAgg0
  z0 := Tryz.sizeOf0
  v0 := Tryz.zeroValue0
  t3 := Tryz.underlying3
  a3 := Tryz.isAgg3
  z3 := Tryz.sizeOf3
  v3 := Tryz.zeroValue3
  t4 := Tryz.underlying4
  a4 := Tryz.isAgg4
  z4 := Tryz.sizeOf4
  v4 := Tryz.zeroValue4
  t5 := Tryz.underlying5
  a5 := Tryz.isAgg5
  z5 := Tryz.sizeOf5
  v5 := Tryz.zeroValue5
  t9 := Tryz.underlying9
  a9 := Tryz.isAgg9
  z9 := Tryz.sizeOf9
  v9 := Tryz.zeroValue9
  t28 := Tryz.underlying39
  a28 := Tryz.isAgg39
  z28 := Tryz.sizeOf39
  v28 := Tryz.zeroValue39
  t46 := Tryz.underlying154
  a46 := Tryz.isAgg154
  z46 := Tryz.sizeOf154
  v46 := Tryz.zeroValue154
  t51 := Tryz.underlying173
  a51 := Tryz.isAgg173
  z51 := Tryz.sizeOf173
  v51 := Tryz.zeroValue173
  t53 := Tryz.underlying175
  a53 := Tryz.isAgg175
  z53 := Tryz.sizeOf175
  v53 := Tryz.zeroValue175
  t131 := Tryz.underlying96
  a131 := Tryz.isAgg96
  z131 := Tryz.sizeOf96
  v131 := Tryz.zeroValue96
  t182 := Tryz.underlying165
  a182 := Tryz.isAgg165
  z182 := Tryz.sizeOf165
  v182 := Tryz.zeroValue165
  t183 := Tryz.underlying166
  a183 := Tryz.isAgg166
  z183 := Tryz.sizeOf166
  v183 := Tryz.zeroValue166
  t218 := Tryz.underlying193
  a218 := Tryz.isAgg193
  z218 := Tryz.sizeOf193
  v218 := Tryz.zeroValue193
  t222 := Tryz.underlying133
  a222 := Tryz.isAgg133
  z222 := Tryz.sizeOf133
  v222 := Tryz.zeroValue133
  t228 := Tryz.underlying213
  a228 := Tryz.isAgg213
  z228 := Tryz.sizeOf213
  v228 := Tryz.zeroValue213
  t229 := Tryz.underlying61
  a229 := Tryz.isAgg61
  z229 := Tryz.sizeOf61
  v229 := Tryz.zeroValue61 }
open Go.Sort Go.RowKit in
theorem Tryz.slices_Sort_int (blk off cap : Nat) (zs : List Int) (w : World) (hH : Holds (Value.int .i64) w blk off zs.toArray) (hblk : blk < w.heap.size) (hsz : zs.length < 4611686018427387904) :
    Calls Tryz.prog 82 #[.slice (some ⟨blk, off, none⟩) zs.length cap] w fun e w' =>
      e = .returned (.tuple #[]) ∧ ∃ n os, w' = grow (putRow (Value.int .i64) (Sort.ahead w n) blk off (zs.mergeSort fun x y => decide (x ≤ y)).toArray) os := Any.slices_Sort_int Tryz.lays189 blk off cap zs w hH hblk hsz
def Tryz.lays99_ren : Go.Shelf.Ren := ⟨fun | 99 => 105 | 206 => 126 | n => n, fun | 9 => 9 | 4 => 4 | 3 => 3 | n => n, fun | n => n⟩
theorem Tryz.lays99 : Go.Proofs.Lays.n99 Tryz.prog Tryz.lays99_ren := {
  mixed := by kernel_rfl
  f99 := Tryz.func105.trans (congrArg some (by kernel_rfl))
  f206 := Tryz.func126.trans (congrArg some (by kernel_rfl))
  t3 := Tryz.underlying3
  a3 := Tryz.isAgg3
  z3 := Tryz.sizeOf3
  v3 := Tryz.zeroValue3
  t4 := Tryz.underlying4
  a4 := Tryz.isAgg4
  z4 := Tryz.sizeOf4
  v4 := Tryz.zeroValue4
  t9 := Tryz.underlying9
  a9 := Tryz.isAgg9
  z9 := Tryz.sizeOf9
  v9 := Tryz.zeroValue9 }
open Go.RowKit Go.Lib in
theorem Tryz.strings_HasPrefix (s p : ByteArray) (w : World) :
    Calls Tryz.prog 105 #[.string s, .string p] w fun e w' => e = .returned (.bool (Lib.hasPrefix s.data.toList p.data.toList)) ∧ w' = w := Any.strings_HasPrefix Tryz.lays99 s p w
def Tryz.lays146_ren : Go.Shelf.Ren := ⟨fun | 146 => 55 | 221 => 98 | 268 => 123 | 138 => 124 | 143 => 125 | 195 => 150 | 197 => 151 | 218 => 152 | 219 => 129 | 260 => 177 | 217 => 162 | 225 => 163 | 224 => 164 | 267 => 165 | 266 => 186 | 314 => 187 | n => n, fun | 9 => 9 | 31 => 87 | 3 => 3 | 4 => 4 | 0 => 0 | 105 => 181 | 21 => 21 | 5 => 5 | 46 => 154 | 119 => 215 | 139 => 218 | 138 => 217 | 146 => 210 | 51 => 173 | n => n, fun | 1 => 0 | 3 => 2 | 4 => 3 | n => n⟩
theorem Tryz.lays146 : Go.Proofs.Lays.n146 Tryz.prog Tryz.lays146_ren := {
  mixed := by kernel_rfl
  f138 := Tryz.func124.trans (congrArg some (by kernel_rfl))
  f143 := Tryz.func125.trans (congrArg some (by kernel_rfl))
  f146 := Tryz.func55.trans (congrArg some (by kernel_rfl))
  f195 := Tryz.func150.trans (congrArg some (by kernel_rfl))
  f197 := Tryz.func151.trans (congrArg some (by kernel_rfl))
  f217 := Tryz.func162.trans (congrArg some (by kernel_rfl))
  f218 := Tryz.func152.trans (congrArg some (by kernel_rfl))
  f219 := Tryz.func129.trans (congrArg some (by kernel_rfl))
  f221 := Tryz.func98.trans (congrArg some (by kernel_rfl))
  f224 := Tryz.func164.trans (congrArg some (by kernel_rfl))
  f225 := Tryz.func163.trans (congrArg some (by kernel_rfl))
  f260 := Tryz.func177.trans (congrArg some (by kernel_rfl))
  f266 := Tryz.func186.trans (congrArg some (by kernel_rfl))
  f267 := Tryz.func165.trans (congrArg some (by kernel_rfl))
  f268 := Tryz.func123.trans (congrArg some (by kernel_rfl))
  f314 := Tryz.func187.trans (congrArg some (by kernel_rfl))
  t0 := Tryz.underlying0
  a0 := Tryz.isAgg0
  z0 := Tryz.sizeOf0
  v0 := Tryz.zeroValue0
  t3 := Tryz.underlying3
  a3 := Tryz.isAgg3
  z3 := Tryz.sizeOf3
  v3 := Tryz.zeroValue3
  t4 := Tryz.underlying4
  a4 := Tryz.isAgg4
  z4 := Tryz.sizeOf4
  v4 := Tryz.zeroValue4
  t5 := Tryz.underlying5
  a5 := Tryz.isAgg5
  z5 := Tryz.sizeOf5
  v5 := Tryz.zeroValue5
  t9 := Tryz.underlying9
  a9 := Tryz.isAgg9
  z9 := Tryz.sizeOf9
  v9 := Tryz.zeroValue9
  t21 := Tryz.underlying21
  a21 := Tryz.isAgg21
  z21 := Tryz.sizeOf21
  v21 := Tryz.zeroValue21
  t31 := Tryz.underlying87
  a31 := Tryz.isAgg87
  z31 := Tryz.sizeOf87
  v31 := Tryz.zeroValue87
  t46 := Tryz.underlying154
  a46 := Tryz.isAgg154
  z46 := Tryz.sizeOf154
  v46 := Tryz.zeroValue154
  t51 := Tryz.underlying173
  a51 := Tryz.isAgg173
  z51 := Tryz.sizeOf173
  v51 := Tryz.zeroValue173
  t105 := Tryz.underlying181
  a105 := Tryz.isAgg181
  z105 := Tryz.sizeOf181
  v105 := Tryz.zeroValue181
  t119 := Tryz.underlying215
  a119 := Tryz.isAgg215
  z119 := Tryz.sizeOf215
  t138 := Tryz.underlying217
  a138 := Tryz.isAgg217
  z138 := Tryz.sizeOf217
  v138 := Tryz.zeroValue217
  t139 := Tryz.underlying218
  a139 := Tryz.isAgg218
  z139 := Tryz.sizeOf218
  v139 := Tryz.zeroValue218
  t146 := Tryz.underlying210
  a146 := Tryz.isAgg210
  z146 := Tryz.sizeOf210
  v146 := Tryz.zeroValue210
  g1 := by kernel_rfl
  g3 := by kernel_rfl
  g4 := by kernel_rfl }
open Go.RowKit Go.Lib in
theorem Tryz.strings_Split (s sep : ByteArray) (m : Int) (w : World) (hs : s.size < 4294967281) (hm : w.cell? ⟨0, 0, none⟩ = some (.int .i64 m)) (h1 : 1 ≤ sep.size) :
    Calls Tryz.prog 55 #[.string s, .string sep] w fun e w' =>
      e = .returned (.slice (some ⟨w.heap.size, 0, none⟩) (Lib.countB s sep + 1) (Lib.countB s sep + 1)) ∧ w' = w.alloc (.cells ((Lib.splitB sep 0 (Lib.countB s sep) s).map Value.string).toArray 9) := Any.strings_Split Tryz.lays146 (by kernel_rfl) s sep m w hs hm h1
def Tryz.lays152_ren : Go.Shelf.Ren := ⟨fun | 152 => 188 | 137 => 197 | 119 => 198 | 224 => 164 | 225 => 163 | 217 => 162 | 266 => 186 | n => n, fun | 9 => 9 | 21 => 21 | 3 => 3 | 4 => 4 | 5 => 5 | 0 => 0 | 46 => 154 | n => n, fun | n => n⟩
theorem Tryz.lays152 : Go.Proofs.Lays.n152 Tryz.prog Tryz.lays152_ren := {
  mixed := by kernel_rfl
  f119 := Tryz.func198.trans (congrArg some (by kernel_rfl))
  f137 := Tryz.func197.trans (congrArg some (by kernel_rfl))
  f152 := Tryz.func188.trans (congrArg some (by kernel_rfl))
  f217 := Tryz.func162.trans (congrArg some (by kernel_rfl))
  f224 := Tryz.func164.trans (congrArg some (by kernel_rfl))
  f225 := Tryz.func163.trans (congrArg some (by kernel_rfl))
  f266 := Tryz.func186.trans (congrArg some (by kernel_rfl))
  t0 := Tryz.underlying0
  a0 := Tryz.isAgg0
  z0 := Tryz.sizeOf0
  v0 := Tryz.zeroValue0
  t3 := Tryz.underlying3
  a3 := Tryz.isAgg3
  z3 := Tryz.sizeOf3
  v3 := Tryz.zeroValue3
  t4 := Tryz.underlying4
  a4 := Tryz.isAgg4
  z4 := Tryz.sizeOf4
  v4 := Tryz.zeroValue4
  t5 := Tryz.underlying5
  a5 := Tryz.isAgg5
  z5 := Tryz.sizeOf5
  v5 := Tryz.zeroValue5
  t9 := Tryz.underlying9
  a9 := Tryz.isAgg9
  z9 := Tryz.sizeOf9
  v9 := Tryz.zeroValue9
  t21 := Tryz.underlying21
  a21 := Tryz.isAgg21
  z21 := Tryz.sizeOf21
  v21 := Tryz.zeroValue21
  t46 := Tryz.underlying154
  a46 := Tryz.isAgg154
  z46 := Tryz.sizeOf154
  v46 := Tryz.zeroValue154 }
open Go.RowKit Go.Lib in
theorem Tryz.strings_IndexRune_ascii (s : ByteArray) (r : Int) (w : World) (h0 : 0 ≤ r) (h1 : r < 128) :
    Calls Tryz.prog 188 #[.string s, .int .i32 r] w fun e w' => e = .returned (.int .i64 (Lib.indexByte s.data.toList r.toNat.toUInt8)) ∧ w' = w := Any.strings_IndexRune_ascii Tryz.lays152 s r w h0 h1
def Tryz.lays226_ren : Go.Shelf.Ren := ⟨fun | 226 => 189 | n => n, fun | 3 => 3 | 4 => 4 | n => n, fun | n => n⟩
theorem Tryz.lays226 : Go.Proofs.Lays.n226 Tryz.prog Tryz.lays226_ren := {
  mixed := by kernel_rfl
  f226 := Tryz.func189.trans (congrArg some (by kernel_rfl))
  t3 := Tryz.underlying3
  a3 := Tryz.isAgg3
  z3 := Tryz.sizeOf3
  v3 := Tryz.zeroValue3
  t4 := Tryz.underlying4
  a4 := Tryz.isAgg4
  z4 := Tryz.sizeOf4
  v4 := Tryz.zeroValue4 }
open Go.RowKit Go.Lib in
theorem Tryz.strings_shouldUseASCIISet (n : Int) (w : World) :
    Calls Tryz.prog 189 #[.int .i64 n] w fun e w' => e = .returned (.bool (decide (8 < n))) ∧ w' = w := Any.strings_shouldUseASCIISet Tryz.lays226 n w
def Tryz.lays153_ren : Go.Shelf.Ren := ⟨fun | 153 => 166 | 152 => 188 | 226 => 189 | 227 => 155 | 228 => 178 | 137 => 197 | 119 => 198 | 224 => 164 | 225 => 163 | 217 => 162 | 266 => 186 | n => n, fun | 9 => 9 | 3 => 3 | 4 => 4 | 5 => 5 | 21 => 21 | 117 => 187 | 116 => 186 | 0 => 0 | 46 => 154 | 124 => 190 | n => n, fun | n => n⟩
theorem Tryz.lays153 : Go.Proofs.Lays.n153 Tryz.prog Tryz.lays153_ren := {
  mixed := by kernel_rfl
  f119 := Tryz.func198.trans (congrArg some (by kernel_rfl))
  f137 := Tryz.func197.trans (congrArg some (by kernel_rfl))
  f152 := Tryz.func188.trans (congrArg some (by kernel_rfl))
  f153 := Tryz.func166.trans (congrArg some (by kernel_rfl))
  f217 := Tryz.func162.trans (congrArg some (by kernel_rfl))
  f224 := Tryz.func164.trans (congrArg some (by kernel_rfl))
  f225 := Tryz.func163.trans (congrArg some (by kernel_rfl))
  f226 := Tryz.func189.trans (congrArg some (by kernel_rfl))
  f227 := Tryz.func155.trans (congrArg some (by kernel_rfl))
  f228 := Tryz.func178.trans (congrArg some (by kernel_rfl))
  f266 := Tryz.func186.trans (congrArg some (by kernel_rfl))
  t0 := Tryz.underlying0
  a0 := Tryz.isAgg0
  z0 := Tryz.sizeOf0
  v0 := Tryz.zeroValue0
  t3 := Tryz.underlying3
  a3 := Tryz.isAgg3
  z3 := Tryz.sizeOf3
  v3 := Tryz.zeroValue3
  t4 := Tryz.underlying4
  a4 := Tryz.isAgg4
  z4 := Tryz.sizeOf4
  v4 := Tryz.zeroValue4
  t5 := Tryz.underlying5
  a5 := Tryz.isAgg5
  z5 := Tryz.sizeOf5
  v5 := Tryz.zeroValue5
  t9 := Tryz.underlying9
  a9 := Tryz.isAgg9
  z9 := Tryz.sizeOf9
  v9 := Tryz.zeroValue9
  t21 := Tryz.underlying21
  a21 := Tryz.isAgg21
  z21 := Tryz.sizeOf21
  v21 := Tryz.zeroValue21
  t46 := Tryz.underlying154
  a46 := Tryz.isAgg154
  z46 := Tryz.sizeOf154
  v46 := Tryz.zeroValue154
  t116 := Tryz.underlying186
  a116 := Tryz.isAgg186
  z116 := Tryz.sizeOf186
  t117 := Tryz.underlying187
  a117 := Tryz.isAgg187
  z117 := Tryz.sizeOf187
  v117 := Tryz.zeroValue187
  t124 := Tryz.underlying190
  a124 := Tryz.isAgg190
  z124 := Tryz.sizeOf190
  v124 := Tryz.zeroValue190 }
open Go.RowKit Go.Lib in
theorem Tryz.strings_IndexAny_long (hv116 : ∀ w, (zeroValue 186).run Tryz.prog w = .ok (.agg (Array.replicate 256 (.bool false))) w) (s chars : ByteArray) (w : World) (h2 : 2 ≤ chars.size) (h8 : 8 < s.size) (hs : s.size < 4294967281) (hcs : chars.size < 4294967281) (hascii : ∀ (j : Nat) b, chars.data.toList[j]? = some b → b.toNat < 128) :
    Calls Tryz.prog 166 #[.string s, .string chars] w fun e w' => e = .returned (.int .i64 (Lib.indexAny s.data.toList chars.data.toList)) ∧ w' = ((w.alloc (.cells (Lib.setCells chars.data.toList) 186)).alloc (.cells (Lib.setCells chars.data.toList) 186)) := Any.strings_IndexAny_long Tryz.lays153 hv116 (by kernel_rfl) s chars w h2 h8 hs hcs hascii
open Go.RowKit in
theorem Tryz.trim_digits (s : ByteArray) (w : World) (hs : s.size ≤ 9223372036854775807) :
    Calls Tryz.prog 127 #[.string s, .string ⟨#[48, 49, 50, 51, 52, 53, 54, 55, 56, 57]⟩] w fun e w' => e = .returned (.string ⟨(Lib.trimS s.data.toList [48, 49, 50, 51, 52, 53, 54, 55, 56, 57]).toArray⟩) ∧ Below w.heap.size w w' :=
  Any.strings_Trim_laid Tryz.lays160 (by kernel_rfl) s ⟨#[48, 49, 50, 51, 52, 53, 54, 55, 56, 57]⟩ w hs (by decide) (ascii_of_all (by decide))
end Go.Proofs
namespace Go.Proofs.YthflpbgloeimfaaGreatDoor.H
open Go.RowKit Go.Proofs.YthflpbgloeimfaaGreatDoorW.PrintWords Go.Proofs.YthflpbgloeimfaaGreatDoorW.PrintLast Go.Proofs.YthflpbgloeimfaaGreatDoorW.PrintMore
set_option linter.unusedVariables false
structure KB (b : Nat) (W W1 : World) : Prop where
  size : W.heap.size ≤ W1.heap.size
  keep : ∀ (k : Nat) (cs : Array Value) (t : TypeId), k ≠ b → t ≠ 5 → W.heap[k]? = some (.cells cs t (0, 0)) → W1.heap[k]? = some (.cells cs t (0, 0))
theorem KB.refl (b : Nat) (W : World) : KB b W W := ⟨Nat.le_refl _, fun _ _ _ _ _ h => h⟩
theorem KB.trans {b : Nat} {W W1 W2 : World} (h : KB b W W1) (h2 : KB b W1 W2) : KB b W W2 := ⟨Nat.le_trans h.size h2.size, fun k cs t hk ht h0 => h2.keep k cs t hk ht (h.keep k cs t hk ht h0)⟩
theorem KB.below {b : Nat} {W W1 : World} (h : Below W.heap.size W W1) : KB b W W1 := ⟨h.size, fun k cs t hk ht h0 => blk_below h0 h⟩
theorem KB.set {b : Nat} {W W1 : World} (h : KB b W W1) (i : Nat) (u : Value) : KB b W (W1.setCell ⟨b, i, none⟩ u) := ⟨by have := h.size; simpa [World.setCell] using this, fun k cs t hk ht h0 => (Below.heap_setCell W1 ⟨b, i, none⟩ u k hk).trans (h.keep k cs t hk ht h0)⟩
theorem KB.row {b : Nat} {W W1 W2 : World} (h : KB b W W1) {row : Option Nat} (hg : W1.grownBy W2 row) (ht : ∀ k, row = some k → ∃ cells, W1.heap[k]? = some (.cells cells 5 (0, 0))) : KB b W W2 := by
  refine ⟨Nat.le_trans h.size hg.size, fun k cs t hk hne h0 => ?_⟩
  have h1 := h.keep k cs t hk hne h0
  refine blk_grown h1 hg (fun e => ?_)
  obtain ⟨cells, hc⟩ := ht k e.symm
  rw [h1] at hc
  injection hc with hc
  injection hc with _ h2 _
  exact hne h2
theorem size76 : (Tryz.prog.info? 69).map (fun i => i.size) = some 2 := by kernel_rfl
theorem lies76 : liesAt Tryz.prog Tryz.prog.depth 69 (2 / Tryz.prog.cellsOf 69) 0 69 1 = true := by kernel_rfl
theorem info5b : (Tryz.prog.info? 5).map (fun i => (i.zero, i.size, i.bytes)) = some (some (.int .u8 0), 1, 1) := by kernel_rfl
set_option maxHeartbeats 2000000 in
set_option maxRecDepth 100000 in
theorem check_used (b : Nat) (w : World) (h0 : w.cell? ⟨b, 0, none⟩ = some (.pointer (some ⟨b, 0, none⟩))) :
    Calls Tryz.prog 95 #[.pointer (some ⟨b, 0, none⟩)] w fun e w' => e = .returned (.tuple #[]) ∧ w' = w := by
  obtain ⟨j, hj, _⟩ := Option.map_eq_some_iff.1 size76
  go_enter Tryz.func95, Tryz.ntmps95
  go_wp2
  rw [Lib.run_neq_ptr_same w _ Tryz.underlying66 hj]
  go_wp2
  go_end0
  exact ⟨rfl, rfl⟩
set_option maxHeartbeats 2000000 in
set_option maxRecDepth 100000 in
theorem check_fresh (b : Nat) (w : World) (h0 : w.cell? ⟨b, 0, none⟩ = some (.pointer none)) (hsh : w.shape? b = some (69, 2)) (hfz : w.frozen? ⟨b, 0, none⟩ = false) :
    Calls Tryz.prog 95 #[.pointer (some ⟨b, 0, none⟩)] w fun e w' => e = .returned (.tuple #[]) ∧ w' = w.setCell ⟨b, 0, none⟩ (.pointer (some ⟨b, 0, none⟩)) := by
  obtain ⟨j, hj, hjs⟩ := Option.map_eq_some_iff.1 size76
  go_enter Tryz.func95, Tryz.ntmps95
  go_wp2
  rw [Lib.run_to_unsafe w ⟨b, 0, none⟩ Tryz.underlying66 Tryz.underlying156 hj (by rw [hjs]; decide) hsh (Nat.zero_lt_succ 1)]
  simp only [Result.andThen]
  rw [Oper.upon_value]
  go_wp2
  rw [run_callFunc_extern Tryz.func121 (by kernel_rfl) (by kernel_rfl) (by kernel_rfl) (e := Extern.AbiNoEscape.same) (by kernel_rfl)]
  rw [Lib.run_noEscape]
  simp only [Result.andThen]
  rw [Oper.upon_value]
  go_wp2
  rw [Lib.run_from_unsafe w ⟨b, 0, none⟩ Tryz.underlying156 Tryz.underlying66 hj hsh lies76]
  simp only [Result.andThen]
  rw [Oper.upon_value]
  go_wp2
  go_end0
  exact ⟨rfl, rfl⟩
theorem check_calls (B b : Nat) (bs : List Value) (w : World) (h : Lib.IsBuilder 69 5 B b bs w) :
    Calls Tryz.prog 95 #[.pointer (some ⟨b, 0, none⟩)] w fun e w' => e = .returned (.tuple #[]) ∧ (Lib.BuilderAt 69 5 B b (.pointer (some ⟨b, 0, none⟩)) bs w' ∧ Below B w w' ∧ KB b w w') := by
  rcases h with h | h
  · refine (check_fresh b w h.cell0 h.shape h.frozen0).mono ?_
    rintro e w' ⟨rfl, rfl⟩
    exact ⟨rfl, h.used _, (Below.refl B w).setCell (p := ⟨b, 0, none⟩) h.1 _, (KB.refl b w).set 0 _⟩
  · refine (check_used b w h.cell0).mono ?_
    rintro e w' ⟨rfl, rfl⟩
    exact ⟨rfl, h, Below.refl B _, KB.refl b _⟩
def BB (B b : Nat) (l : List UInt8) (w : World) : Prop := Lib.IsBuilder 69 5 B b (Lib.byteCells l) w
set_option maxHeartbeats 2000000 in
set_option maxRecDepth 100000 in
theorem wstr_calls (B b : Nat) (bs : List Value) (s : ByteArray) (w : World) (h : Lib.IsBuilder 69 5 B b bs w) (hlen : bs.length + s.size ≤ 140737488355328) (hBw : B ≤ w.heap.size) :
    Calls Tryz.prog 44 #[.pointer (some ⟨b, 0, none⟩), .string s] w fun e w' => e = .returned (.tuple #[.int .i64 s.size, .nilIface]) ∧ (Lib.BuilderAt 69 5 B b (.pointer (some ⟨b, 0, none⟩)) (bs ++ Lib.strCells s) w' ∧ Below B w w' ∧ KB b w w') := by
  obtain ⟨i0, hi, hz0, hz1, hz2⟩ := info_parts info5b
  have HC := Aside0.mk (check_calls B b bs w h)
  clear h
  go_enter Tryz.func44, Tryz.ntmps44
  go_wp2_with fail
  refine (HC.out).mono ?_
  rintro e w1 ⟨rfl, h1, hb1, hk1⟩
  have HK1 := Aside0.mk hk1
  clear hk1
  obtain ⟨hB, v, hbk, hown, hne⟩ := h1
  have c0 : w1.cell? ⟨b, 0, none⟩ = some (.pointer (some ⟨b, 0, none⟩)) := by rw [Lib.cell_of_heap hbk]; rfl
  have c1 : w1.cell? ⟨b, 1, none⟩ = some v := by rw [Lib.cell_of_heap hbk]; rfl
  go_wp2_with (at_builtin; refine Lib.wpList_append_own_string _ rfl _ _ 67 9 rfl B 5 i0 Tryz.underlying67 Tryz.underlying9 hi hz0 hz1 hz2 _ _ _ rfl hown s rfl ?c3 ?c4 ?c5 ?_)
  case c3 => unfold maxLen; omega
  case c4 => omega
  case c5 => have := hb1.size; omega
  intro v' w2 hown' hgrow _
  have hlt : b < w1.heap.size := blk_lt hbk
  have hb2 : w2.heap[b]? = some (.cells #[.pointer (some ⟨b, 0, none⟩), v] 69 (0, 0)) := by
    rw [hgrow.block b hlt (fun e => hne e.symm)]
    exact hbk
  have d0 : w2.cell? ⟨b, 0, none⟩ = some (.pointer (some ⟨b, 0, none⟩)) := by rw [Lib.cell_of_heap hb2]; rfl
  have d1 : w2.cell? ⟨b, 1, none⟩ = some v := by rw [Lib.cell_of_heap hb2]; rfl
  have f1 : w2.frozen? ⟨b, 1, none⟩ = false := Lib.frozen_of_heap hb2 1
  obtain ⟨ao, n', cap, rfl⟩ : ∃ ao n' cap, v' = .slice ao n' cap := by
    rcases hown'.2 with ⟨hv, _⟩ | ⟨g, cap, cur, hv, _⟩
    · exact ⟨_, _, _, hv⟩
    · exact ⟨_, _, _, hv⟩
  go_wp2
  go_ret2
  refine ⟨rfl, ?_, ?_, ?_⟩
  · exact Lib.BuilderAt.put (T := 69) (e := 5) hB hb2 (bs' := bs ++ Lib.strCells s) (by simpa [Lib.strCells_length] using hown') (by decide)
  · exact (hb1.grown hgrow (by have := hb1.size; omega) (fun k hk => (hown.lt k hk).1)).setCell (p := ⟨b, 1, none⟩) hB _
  · exact ((HK1.out).row hgrow (fun k hk => own_typed hown k hk)).set 1 _
set_option maxHeartbeats 2000000 in
set_option maxRecDepth 100000 in
theorem wbyte_calls (B b : Nat) (bs : List Value) (c : Int) (w : World) (h : Lib.IsBuilder 69 5 B b bs w) (hlen : bs.length + 1 ≤ 140737488355328) (hBw : B ≤ w.heap.size) :
    Calls Tryz.prog 48 #[.pointer (some ⟨b, 0, none⟩), .int .u8 c] w fun e w' => e = .returned .nilIface ∧ (Lib.BuilderAt 69 5 B b (.pointer (some ⟨b, 0, none⟩)) (bs ++ [.int .u8 c]) w' ∧ Below B w w' ∧ KB b w w') := by
  obtain ⟨i0, hi, hz0, hz1, hz2⟩ := info_parts info5b
  have HC := Aside0.mk (check_calls B b bs w h)
  clear h
  go_enter Tryz.func48, Tryz.ntmps48
  go_wp2_with fail
  refine (HC.out).mono ?_
  rintro e w1 ⟨rfl, h1, hb1, hk1⟩
  have HK1 := Aside0.mk hk1
  clear hk1
  obtain ⟨hB, v, hbk, hown, hne⟩ := h1
  have c0 : w1.cell? ⟨b, 0, none⟩ = some (.pointer (some ⟨b, 0, none⟩)) := by rw [Lib.cell_of_heap hbk]; rfl
  have c1 : w1.cell? ⟨b, 1, none⟩ = some v := by rw [Lib.cell_of_heap hbk]; rfl
  go_wp2_with (at_builtin; refine wpList_append_own _ rfl _ _ 67 rfl B 5 i0 (.int .u8 0) 1 1 Tryz.underlying67 hi hz0 hz1 hz2 rfl (by decide) _ _ _ rfl (hown.alloc _) ⟨w1.heap.size, 0, none⟩ 1 1 [.int .u8 c] rfl rfl ?c1 ?c2 ?c3 ?c4 ?c5 ?_)
  case c1 =>
    intro j u hj
    match j, hj with
    | 0, hj => simp at hj; subst hj; simp [Addr.add]
  case c2 => intro u hu; simp at hu; subst hu; rfl
  case c3 => unfold maxLen; omega
  case c4 => omega
  case c5 => have := hb1.size; simp; omega
  intro v' w2 hown' hgrow _
  have hlt : b < w1.heap.size := blk_lt hbk
  have hb2 : w2.heap[b]? = some (.cells #[.pointer (some ⟨b, 0, none⟩), v] 69 (0, 0)) := by
    rw [hgrow.block b (by simp; omega) (fun e => hne e.symm), Lib.alloc_old w1 _ b hlt]
    exact hbk
  have d0 : w2.cell? ⟨b, 0, none⟩ = some (.pointer (some ⟨b, 0, none⟩)) := by rw [Lib.cell_of_heap hb2]; rfl
  have d1 : w2.cell? ⟨b, 1, none⟩ = some v := by rw [Lib.cell_of_heap hb2]; rfl
  have f1 : w2.frozen? ⟨b, 1, none⟩ = false := Lib.frozen_of_heap hb2 1
  obtain ⟨g, cap, rfl⟩ : ∃ g cap, v' = .slice (some ⟨g, 0, none⟩) (bs.length + 1) cap := by
    rcases hown'.2 with ⟨_, h0⟩ | ⟨g, cap, cur, hv, _⟩
    · omega
    · exact ⟨g, cap, hv⟩
  go_wp2
  go_ret
  refine ⟨rfl, ?_, ?_, ?_⟩
  · exact Lib.BuilderAt.put (T := 69) (e := 5) hB hb2 (bs' := bs ++ [.int .u8 c]) (by simpa using hown') (by decide)
  · exact ((hb1.alloc (by have := hb1.size; omega) _).grown hgrow (by have := hb1.size; simp; omega) (fun k hk => (hown.lt k hk).1)).setCell (p := ⟨b, 1, none⟩) hB _
  · exact (((HK1.out).trans (KB.below (below_alloc (Below.refl _ _) _))).row hgrow (fun k hk => own_typed (hown.alloc _) k hk)).set 1 _
def dg (n : Nat) : List UInt8 := Lib.decDigits n
theorem dg_len {n : Nat} (h : n < 100) : (dg n).length ≤ 2 := by
  have : ((List.range 100).all fun i => decide ((dg i).length ≤ 2)) = true := by kernel_rfl
  exact of_decide_eq_true (List.all_eq_true.1 this n (List.mem_range.2 h))
theorem bb_below {B b : Nat} {l : List UInt8} {W W1 : World} (h : BB B b l W) (hb : Below W.heap.size W W1) : BB B b l W1 := by
  have key : ∀ p, Lib.BuilderAt 69 5 B b p (Lib.byteCells l) W → Lib.BuilderAt 69 5 B b p (Lib.byteCells l) W1 := by
    rintro p ⟨h1, v, h2, h3, h4⟩
    exact ⟨h1, v, blk_below h2 hb, own_move h3 (fun k hk => hb.block k (own_lt h3 k hk)), h4⟩
  exact h.imp (key _) (key _)
theorem byteCells_app (a b : List UInt8) : Lib.byteCells (a ++ b) = Lib.byteCells a ++ Lib.byteCells b := by unfold Lib.byteCells; simp
theorem byteCells_len (a : List UInt8) : (Lib.byteCells a).length = a.length := by unfold Lib.byteCells; simp
theorem strCells_eq (s : ByteArray) : Lib.strCells s = Lib.byteCells s.data.toList := by
  unfold Lib.strCells Lib.byteCells
  rfl
def WrE (b : Nat) (acc : List UInt8) (W W1 : World) : Prop := BB b b acc W1 ∧ Below b W W1 ∧ KB b W W1
theorem ws_calls (b : Nat) (l : List UInt8) (s : ByteArray) (t : List UInt8) (w : World) (h : BB b b l w) (ht : s.data.toList = t) (hlen : l.length + t.length ≤ 140737488355328) (hBw : b ≤ w.heap.size) :
    Calls Tryz.prog 44 #[.pointer (some ⟨b, 0, none⟩), .string s] w fun e w' => e = .returned (.tuple #[.int .i64 s.size, .nilIface]) ∧ WrE b (l ++ t) w w' := by
  refine (wstr_calls b b _ s w h (by rw [byteCells_len, Lib.size_eq, ht]; exact hlen) hBw).mono ?_
  rintro e w' ⟨rfl, h1, h2, h3⟩
  refine ⟨rfl, .inr ?_, h2, h3⟩
  rw [byteCells_app, ← ht, ← strCells_eq]
  exact h1
theorem wb_calls (b : Nat) (l : List UInt8) (c : UInt8) (w : World) (h : BB b b l w) (hlen : l.length + 1 ≤ 140737488355328) (hBw : b ≤ w.heap.size) :
    Calls Tryz.prog 48 #[.pointer (some ⟨b, 0, none⟩), .int .u8 (c.toNat : Int)] w fun e w' => e = .returned .nilIface ∧ WrE b (l ++ [c]) w w' := by
  refine (wbyte_calls b b _ (c.toNat : Int) w h (by rw [byteCells_len]; exact hlen) hBw).mono ?_
  rintro e w' ⟨rfl, h1, h2, h3⟩
  refine ⟨rfl, .inr ?_, h2, h3⟩
  rw [byteCells_app]
  exact h1
theorem itoa_calls (n : Int) (h0 : 0 ≤ n) (h1 : n < 100) (w : World) : Calls Tryz.prog 45 #[.int .i64 n] w fun e w' => e = .returned (.string ⟨(dg n.toNat).toArray⟩) ∧ w' = w := by
  obtain ⟨k, rfl⟩ := Int.eq_ofNat_of_zero_le h0
  exact Tryz.strconv_Itoa_small k (by omega) w
end Go.Proofs.YthflpbgloeimfaaGreatDoor.H
namespace Go.Proofs.YthflpbgloeimfaaGreatDoor.H
open Go.RowKit Go.Proofs.YthflpbgloeimfaaGreatDoorW.PrintWords Go.Proofs.YthflpbgloeimfaaGreatDoorW.PrintLast Go.Proofs.YthflpbgloeimfaaGreatDoorW.PrintMore
open Go.Proofs.YthflpbgloeimfaaGreatDoor.Q (S47 k47 rd_T47 z47 at_T47 S50 k50 rd_T50 z50 at_T50 S52 k52 rd_T52 at_T52 z52 S71 k71 rd_T71 at_T71)
set_option linter.unusedVariables false
set_option linter.unusedSimpArgs false
def wrapS (a : S47) (x : List UInt8) : List UInt8 := if a.f0.length = 0 then x else 40 :: (x ++ [41])
mutual
def srtS : S47 → List UInt8
  | ⟨l⟩ => srtSL l ++ [111]
def srtSL : List S47 → List UInt8
  | [] => []
  | a :: r => wrapS a (srtS a) ++ (32 :: 62 :: 32 :: srtSL r)
end
def wrapT (a : S50) (x : List UInt8) : List UInt8 := if a.f2.length = 0 then x else 40 :: (x ++ [41])
mutual
def trmS (hd : Int → Int → List UInt8) : S50 → List UInt8
  | ⟨k, n, l⟩ => hd k n ++ trmSL hd l
def trmSL (hd : Int → Int → List UInt8) : List S50 → List UInt8
  | [] => []
  | a :: r => 32 :: (wrapT a (trmS hd a) ++ trmSL hd r)
end
def hdS (sy : List S71) (fs : List S52) (k n : Int) : List UInt8 := if k = 0 then 36 :: dg n.toNat else if k = 1 then (rd_T52 fs n).f0.data.toList else 35 :: (rd_T71 sy n).f0.data.toList
def symL (x : S71) : List UInt8 := [115, 121, 109, 98, 111, 108, 32] ++ (x.f0.data.toList ++ (32 :: (dg x.f1.toNat ++ [10])))
def funL (sy : List S71) (fs : List S52) (f : S52) : List UInt8 := [102, 117, 110, 32] ++ (f.f0.data.toList ++ ([32, 58, 32] ++ (srtS f.f1 ++ ([32, 61, 32] ++ (trmS (hdS sy fs) f.f2 ++ [10])))))
def putL (sy : List S71) (fs : List S52) : List UInt8 := sy.flatMap symL ++ fs.flatMap (funL sy fs)
def putV (sy : List S71) (fs : List S52) : List UInt8 × Int := if schB sy fs then (if 65536 < (putL sy fs).length then ([], 3) else (putL sy fs, 0)) else ([], 7)
theorem srtSL_snoc (a : List S47) (x : S47) : srtSL (a ++ [x]) = srtSL a ++ (wrapS x (srtS x) ++ [32, 62, 32]) := by
  induction a with
  | nil => simp [srtSL]
  | cons y r ih => rw [List.cons_append, srtSL, srtSL, ih]; simp
theorem trmSL_snoc (hd : Int → Int → List UInt8) (a : List S50) (x : S50) : trmSL hd (a ++ [x]) = trmSL hd a ++ (32 :: wrapT x (trmS hd x)) := by
  induction a with
  | nil => simp [trmSL]
  | cons y r ih => rw [List.cons_append, trmSL, trmSL, ih]; simp
theorem wrapS_len (a : S47) (x : List UInt8) : (wrapS a x).length ≤ x.length + 2 := by unfold wrapS; split <;> simp
theorem wrapT_len (a : S50) (x : List UInt8) : (wrapT a x).length ≤ x.length + 2 := by unfold wrapT; split <;> simp
theorem srtS_len_aux (n : Nat) : ∀ t : S47, sN t ≤ n → (srtS t).length + 5 ≤ 6 * sN t := by
  induction n with
  | zero => intro t h; have := sN_pos t; omega
  | succ n ih =>
    intro t h
    obtain ⟨l⟩ := t
    rw [sN] at h ⊢
    rw [srtS, List.length_append, List.length_singleton]
    have : ∀ l : List S47, sNL l ≤ n → (srtSL l).length ≤ 6 * sNL l := by
      intro l
      induction l with
      | nil => intro _; simp [srtSL]
      | cons a r ihr =>
        intro h
        rw [sNL] at h ⊢
        rw [srtSL, List.length_append]
        simp only [List.length_cons]
        have h1 := ih a (by omega)
        have h2 := ihr (by omega)
        have h3 := wrapS_len a (srtS a)
        omega
    have := this l (by omega)
    omega
theorem srtS_len (t : S47) : (srtS t).length ≤ 6 * sN t := by have := srtS_len_aux _ t (Nat.le_refl _); omega
theorem srtSL_len (l : List S47) : (srtSL l).length ≤ 6 * sNL l := by
  have := srtS_len_aux _ ⟨l⟩ (Nat.le_refl _)
  rw [srtS, sN, List.length_append, List.length_singleton] at this
  omega
theorem wb40 (b : Nat) (l : List UInt8) (w : World) (h : BB b b l w) (hlen : l.length + 1 ≤ 140737488355328) (hBw : b ≤ w.heap.size) : Calls Tryz.prog 48 #[.pointer (some ⟨b, 0, none⟩), .int .u8 40] w fun e w' => e = .returned .nilIface ∧ WrE b (l ++ [40]) w w' := wb_calls b l 40 w h hlen hBw
theorem wb41 (b : Nat) (l : List UInt8) (w : World) (h : BB b b l w) (hlen : l.length + 1 ≤ 140737488355328) (hBw : b ≤ w.heap.size) : Calls Tryz.prog 48 #[.pointer (some ⟨b, 0, none⟩), .int .u8 41] w fun e w' => e = .returned .nilIface ∧ WrE b (l ++ [41]) w w' := wb_calls b l 41 w h hlen hBw
theorem wb111 (b : Nat) (l : List UInt8) (w : World) (h : BB b b l w) (hlen : l.length + 1 ≤ 140737488355328) (hBw : b ≤ w.heap.size) : Calls Tryz.prog 48 #[.pointer (some ⟨b, 0, none⟩), .int .u8 111] w fun e w' => e = .returned .nilIface ∧ WrE b (l ++ [111]) w w' := wb_calls b l 111 w h hlen hBw
theorem wb32 (b : Nat) (l : List UInt8) (w : World) (h : BB b b l w) (hlen : l.length + 1 ≤ 140737488355328) (hBw : b ≤ w.heap.size) : Calls Tryz.prog 48 #[.pointer (some ⟨b, 0, none⟩), .int .u8 32] w fun e w' => e = .returned .nilIface ∧ WrE b (l ++ [32]) w w' := wb_calls b l 32 w h hlen hBw
theorem wb10 (b : Nat) (l : List UInt8) (w : World) (h : BB b b l w) (hlen : l.length + 1 ≤ 140737488355328) (hBw : b ≤ w.heap.size) : Calls Tryz.prog 48 #[.pointer (some ⟨b, 0, none⟩), .int .u8 10] w fun e w' => e = .returned .nilIface ∧ WrE b (l ++ [10]) w w' := wb_calls b l 10 w h hlen hBw
structure WS (w0 W : World) (b : Nat) (acc : List UInt8) (W1 : World) : Prop where
  hb0 : Below w0.heap.size w0 W1
  hb : Below b W W1
  kb : KB b W W1
  bb : BB b b acc W1
  lt : b < W1.heap.size
theorem WS.write {w0 W : World} {b : Nat} {acc acc1 : List UInt8} {W1 W2 : World} (h : WS w0 W b acc W1) (h0 : w0.heap.size ≤ b) (hw : WrE b acc1 W1 W2) : WS w0 W b acc1 W2 :=
  ⟨Below.trans h.hb0 (Below.mono hw.2.1 h0), Below.trans h.hb hw.2.1, h.kb.trans hw.2.2, hw.1, Nat.lt_of_lt_of_le h.lt hw.2.2.size⟩
theorem WS.below {w0 W : World} {b : Nat} {acc : List UInt8} {W1 W2 : World} (h : WS w0 W b acc W1) (hb : Below W1.heap.size W1 W2) : WS w0 W b acc W2 :=
  ⟨below_then h.hb0 h.hb0.size hb, Below.trans h.hb (Below.mono hb (Nat.le_of_lt h.lt)), h.kb.trans (KB.below hb), bb_below h.bb hb, Nat.lt_of_lt_of_le h.lt hb.size⟩
theorem WS.wr {w0 W : World} {b : Nat} {acc : List UInt8} {W1 : World} (h : WS w0 W b acc W1) : WrE b acc W W1 := ⟨h.bb, h.hb, h.kb⟩
set_option maxHeartbeats 8000000 in
set_option maxRecDepth 100000 in
theorem swrite_calls (w0 : World) (b : Nat) (hb0 : w0.heap.size ≤ b) (N : Nat) : ∀ (t : S47), sN t ≤ N → N ≤ 1000000 → ∀ (A : Option Addr) (c : Nat) (acc : List UInt8) (W : World), Kd.C k47 w0 A t.f0.length t.f0 → t.f0.length ≤ c → Below w0.heap.size w0 W → BB b b acc W → b < W.heap.size → acc.length + 6 * sN t ≤ 1000000000000 →
    Calls Tryz.prog 97 #[.pointer (some ⟨b, 0, none⟩), .agg #[.slice A t.f0.length c]] W fun E W' => E = .returned (.tuple #[]) ∧ WrE b (acc ++ srtS t) W W' := by
  induction N with
  | zero => intro t h; have := sN_pos t; omega
  | succ N ih =>
    intro t hN hM A c acc W hC hc hB hBB hlt0 hlen
    obtain ⟨l⟩ := t
    rw [sN] at hN hlen
    have H0 := Aside0.mk hb0
    have HC := Aside0.mk hC
    have IH := Aside0.mk ih
    have HD := Aside0.mk (show sNL l ≤ N ∧ N ≤ 1000000 ∧ acc.length + 6 * (sNL l + 1) ≤ 1000000000000 from ⟨by omega, by omega, hlen⟩)
    have HLEN := Aside0.mk (show l.length ≤ 1000000 from by have := sLen_le (l := l); omega)
    have HW := Aside0.mk ((WS.mk hB (Below.refl _ _) (KB.refl _ _) hBB hlt0).below (below_alloc (Below.refl W.heap.size W) (.cells #[.slice A l.length c] 47)))
    have HX := Aside0.mk (blk_new W (.cells #[.slice A l.length c] 47))
    clear hb0 hC ih hN hM hc hB hBB hlt0 hlen
    go_enter Tryz.func97, Tryz.ntmps97
    go_upto_region 1 with (fail)
    generalize (W.alloc (.cells #[.slice A l.length c] 47)) = W1 at *
    have p0 : W1.cell? ⟨W.heap.size, 0, none⟩ = some (.slice A l.length c) := (blk_cell HX.out 0).trans rfl
    go_wp2
    clear p0
    go_loopg [9] l.length (fun gg v9 wi => ∃ (j : Nat), j ≤ l.length ∧ l.length - j ≤ gg ∧ v9 = .int .i64 j ∧ Aside0 (WS w0 W b (acc ++ srtSL (l.take j)) wi))
    case atStart => exact ⟨0, by omega, by omega, rfl, ⟨by rw [List.take_zero, srtSL, List.append_nil]; exact HW.out⟩⟩
    case round =>
      clear HW HX
      obtain ⟨j, hj, hgg, rfl, HW⟩ := hrel
      by_cases hlt : j < l.length
      · have hltz : (j : Int) < (l.length : Int) := by omega
        obtain ⟨ad, A1, c1, e, hx0, hl1, hC1⟩ := at_T47 HC.out (j : Int) (by omega) hltz
        subst e
        rw [rdS_at hlt] at hx0 hl1 hC1
        rw [Int.toNat_natCast] at hx0
        replace hx0 := ((HW.out).hb0.cell (World.block_lt_of_cell? w0 _ hx0)).trans hx0
        have HS := Aside0.mk (show acc ++ srtSL (l.take (j + 1)) = ((acc ++ srtSL (l.take j)) ++ wrapS l[j] (srtS l[j])) ++ [32, 62, 32] by rw [takeS hlt, srtSL_snoc]; simp)
        have HJ := Aside0.mk (show sN l[j] ≤ N ∧ (acc ++ srtSL (l.take j)).length + 6 * sN l[j] + 6 ≤ 1000000000000 from by
          have h1 := sN_mem (List.getElem_mem hlt)
          have h2 := srtSL_len (l.take j)
          have h3 := sNL_snoc (l.take j) l[j]
          rw [← takeS hlt] at h3
          have h4 := sNL_take l (j + 1)
          have := HD.out
          rw [List.length_append]
          omega)
        generalize l[j] = u at *
        generalize acc ++ srtSL (l.take j) = acc1 at *
        have HC1 := Aside0.mk hC1
        have HL1 := Aside0.mk hl1
        clear hC1 hl1
        go_upto_region 4 with (fail)
        have HW5 := Aside0.mk ((HW.out).below (below_alloc (Below.refl wr.heap.size wr) (.cells #[.slice A1 u.f0.length c1] 47)))
        have HX5 := Aside0.mk (blk_new wr (.cells #[.slice A1 u.f0.length c1] 47))
        have HNB := Aside0.mk (show wr.heap.size ≠ b from by have := (HW.out).lt; omega)
        clear HW hx0
        generalize (wr.alloc (.cells #[.slice A1 u.f0.length c1] 47)) = w5 at *
        generalize wr.heap.size = b7 at *
        have m0 : w5.cell? ⟨b7, 0, none⟩ = some (.slice A1 u.f0.length c1) := (blk_cell HX5.out 0).trans rfl
        by_cases hz : u.f0.length = 0
        · have hzz : ¬ (u.f0.length : Int) > 0 := by omega
          have HWR := Aside0.mk (show wrapS u (srtS u) = srtS u from if_pos hz)
          have HWI := Aside0.mk (IH.out u (HJ.out).1 (HD.out).2.1 A1 c1 acc1 w5 HC1.out HL1.out (HW5.out).hb0 (HW5.out).bb (HW5.out).lt (by have := (HJ.out).2; omega))
          clear hz
          go_wp2_with fail
          refine (HWI.out).mono ?_
          rintro E w6 ⟨rfl, hw⟩
          have HW6 := Aside0.mk ((HW5.out).write H0.out hw)
          have HX6 := Aside0.mk (hw.2.2.keep _ _ _ HNB.out (by decide) HX5.out)
          clear hw HW5 HX5 m0 HWI
          have m0 : w6.cell? ⟨b7, 0, none⟩ = some (.slice A1 u.f0.length c1) := (blk_cell HX6.out 0).trans rfl
          have HSS := Aside0.mk (ws_calls b (acc1 ++ srtS u) ⟨#[32, 62, 32]⟩ [32, 62, 32] w6 (HW6.out).bb rfl (by have := (HJ.out).2; have := srtS_len u; rw [List.length_append]; simp only [List.length_cons, List.length_nil]; omega) (Nat.le_of_lt (HW6.out).lt))
          go_wp2_with fail
          refine (HSS.out).mono ?_
          rintro E w7 ⟨rfl, hw⟩
          have HW7 := Aside0.mk ((HW6.out).write H0.out hw)
          clear hw HW6 HX6 m0 HSS
          go_wp2
          go_roundg (l.length - (j + 1))
          case measure => omega
          case rel => exact ⟨j + 1, by omega, by omega, by rw [wrap_succ (by omega) (by have := HLEN.out; omega)]; rfl, ⟨by rw [HS.out, HWR.out]; exact HW7.out⟩⟩
        · have hzz : (u.f0.length : Int) > 0 := by omega
          have HWR := Aside0.mk (show wrapS u (srtS u) = 40 :: (srtS u ++ [41]) from if_neg hz)
          have HW40 := Aside0.mk (wb40 b acc1 w5 (HW5.out).bb (by have := (HJ.out).2; omega) (Nat.le_of_lt (HW5.out).lt))
          clear hz
          go_wp2_with fail
          refine (HW40.out).mono ?_
          rintro E w51 ⟨rfl, hw⟩
          have HW51 := Aside0.mk ((HW5.out).write H0.out hw)
          have HX51 := Aside0.mk (hw.2.2.keep _ _ _ HNB.out (by decide) HX5.out)
          clear hw HW5 HX5 m0 HW40
          have m0 : w51.cell? ⟨b7, 0, none⟩ = some (.slice A1 u.f0.length c1) := (blk_cell HX51.out 0).trans rfl
          have HWI := Aside0.mk (IH.out u (HJ.out).1 (HD.out).2.1 A1 c1 (acc1 ++ [40]) w51 HC1.out HL1.out (HW51.out).hb0 (HW51.out).bb (HW51.out).lt (by have := (HJ.out).2; rw [List.length_append, List.length_singleton]; omega))
          go_wp2_with fail
          refine (HWI.out).mono ?_
          rintro E w6 ⟨rfl, hw⟩
          have HW6 := Aside0.mk ((HW51.out).write H0.out hw)
          have HX6 := Aside0.mk (hw.2.2.keep _ _ _ HNB.out (by decide) HX51.out)
          clear hw HW51 HX51 m0 HWI
          have m0 : w6.cell? ⟨b7, 0, none⟩ = some (.slice A1 u.f0.length c1) := (blk_cell HX6.out 0).trans rfl
          have HW41 := Aside0.mk (wb41 b (acc1 ++ [40] ++ srtS u) w6 (HW6.out).bb (by have := (HJ.out).2; have := srtS_len u; rw [List.length_append, List.length_append]; simp only [List.length_cons, List.length_nil]; omega) (Nat.le_of_lt (HW6.out).lt))
          go_wp2_with fail
          refine (HW41.out).mono ?_
          rintro E w61 ⟨rfl, hw⟩
          have HW61 := Aside0.mk ((HW6.out).write H0.out hw)
          clear hw HW6 HX6 m0 HW41
          have HSS := Aside0.mk (ws_calls b (acc1 ++ [40] ++ srtS u ++ [41]) ⟨#[32, 62, 32]⟩ [32, 62, 32] w61 (HW61.out).bb rfl (by have := (HJ.out).2; have := srtS_len u; rw [List.length_append, List.length_append, List.length_append]; simp only [List.length_cons, List.length_nil]; omega) (Nat.le_of_lt (HW61.out).lt))
          go_wp2_with fail
          refine (HSS.out).mono ?_
          rintro E w7 ⟨rfl, hw⟩
          have HW7 := Aside0.mk ((HW61.out).write H0.out hw)
          clear hw HW61 HSS
          go_wp2
          go_roundg (l.length - (j + 1))
          case measure => omega
          case rel => exact ⟨j + 1, by omega, by omega, by rw [wrap_succ (by omega) (by have := HLEN.out; omega)]; rfl, ⟨by rw [HS.out, HWR.out, show acc1 ++ 40 :: (srtS u ++ [41]) ++ [32, 62, 32] = acc1 ++ [40] ++ srtS u ++ [41] ++ [32, 62, 32] by simp]; exact HW7.out⟩⟩
      · have hltz : ¬ (j : Int) < (l.length : Int) := by omega
        have hje : j = l.length := by omega
        subst hje
        rw [List.take_length] at HW
        have HE := Aside0.mk (show acc ++ srtS ⟨l⟩ = acc ++ srtSL l ++ [111] by rw [srtS, List.append_assoc])
        have HL := Aside0.mk (srtSL_len l)
        have HWF := Aside0.mk (wb111 b (acc ++ srtSL l) wr (HW.out).bb (by have := HD.out; have := HL.out; rw [List.length_append]; omega) (Nat.le_of_lt (HW.out).lt))
        go_wp2_with fail
        refine (HWF.out).mono ?_
        rintro E w7 ⟨rfl, hw⟩
        have HW7 := Aside0.mk ((HW.out).write H0.out hw)
        clear hw HWF
        go_wp2
        go_end0
        exact ⟨rfl, by rw [HE.out]; exact (HW7.out).wr⟩
end Go.Proofs.YthflpbgloeimfaaGreatDoor.H
namespace Go.Proofs.YthflpbgloeimfaaGreatDoor.H
open Go.RowKit Go.Proofs.YthflpbgloeimfaaGreatDoorW.PrintWords Go.Proofs.YthflpbgloeimfaaGreatDoorW.PrintLast Go.Proofs.YthflpbgloeimfaaGreatDoorW.PrintMore
open Go.Proofs.YthflpbgloeimfaaGreatDoor.Q (S47 k47 rd_T47 z47 at_T47 S50 k50 rd_T50 z50 at_T50 S52 k52 rd_T52 at_T52 z52 S71 k71 rd_T71 at_T71)
set_option linter.unusedVariables false
set_option linter.unusedSimpArgs false
def srtP : Nat → List S47 → List UInt8 → Option (S47 × List UInt8)
  | 0, _, _ => none
  | n + 1, acc, l =>
    if Lib.hasPrefix l [40] then (srtP n [] (l.drop 1)).bind fun p => if p.1.f0.length = 0 then none else if Lib.hasPrefix p.2 [41, 32, 62, 32] then srtP n (acc ++ [p.1]) (p.2.drop 4) else none
    else if Lib.hasPrefix l [111] then (if Lib.hasPrefix (l.drop 1) [32, 62, 32] then srtP n (acc ++ [⟨[]⟩]) ((l.drop 1).drop 3) else some (⟨acc⟩, l.drop 1)) else none
theorem hp_len {l p : List UInt8} (h : Lib.hasPrefix l p = true) : p.length ≤ l.length := by
  unfold Lib.hasPrefix at h
  have := List.IsPrefix.length_le (List.isPrefixOf_iff_prefix.1 h)
  exact this
theorem srtP_less (n : Nat) : ∀ (acc : List S47) (l : List UInt8) (p : S47 × List UInt8), srtP n acc l = some p → p.2.length < l.length := by
  induction n with
  | zero => intro acc l p h; simp [srtP] at h
  | succ n ih =>
    intro acc l p h
    rw [srtP] at h
    cases q : Lib.hasPrefix l [40] with
    | true =>
      have hl := hp_len q
      simp only [List.length_cons, List.length_nil] at hl
      rw [q, if_pos rfl] at h
      obtain ⟨a, ha, h⟩ := Option.bind_eq_some_iff.1 h
      have h1 := ih _ _ _ ha
      rw [List.length_drop] at h1
      split at h
      · cases h
      · split at h
        · have h2 := ih _ _ _ h
          rw [List.length_drop] at h2
          omega
        · cases h
    | false =>
      rw [q] at h
      simp only [Bool.false_eq_true, if_false] at h
      cases q2 : Lib.hasPrefix l [111] with
      | false => rw [q2] at h; simp at h
      | true =>
        have hl := hp_len q2
        simp only [List.length_cons, List.length_nil] at hl
        rw [q2, if_pos rfl] at h
        split at h
        · have h2 := ih _ _ _ h
          rw [List.length_drop, List.length_drop] at h2
          omega
        · cases h
          rw [List.length_drop]
          omega
theorem srtP_fuel (n : Nat) : ∀ (m : Nat) (acc : List S47) (l : List UInt8), l.length < n → l.length < m → srtP n acc l = srtP m acc l := by
  induction n with
  | zero => intro m acc l h; omega
  | succ n ih =>
    intro m acc l h1 h2
    cases m with
    | zero => omega
    | succ m =>
      rw [srtP, srtP]
      cases q : Lib.hasPrefix l [40] with
      | true =>
        have hl := hp_len q
        simp only [List.length_cons, List.length_nil] at hl
        rw [if_pos rfl, if_pos rfl]
        rw [← ih m [] (l.drop 1) (by rw [List.length_drop]; omega) (by rw [List.length_drop]; omega)]
        cases e : srtP n [] (l.drop 1) with
        | none => rfl
        | some p =>
          have h3 := srtP_less _ _ _ _ e
          rw [List.length_drop] at h3
          simp only [Option.bind_some]
          rw [ih m _ (p.2.drop 4) (by rw [List.length_drop]; omega) (by rw [List.length_drop]; omega)]
      | false =>
        simp only [Bool.false_eq_true, if_false]
        cases q2 : Lib.hasPrefix l [111] with
        | false => rfl
        | true =>
          have hl := hp_len q2
          simp only [List.length_cons, List.length_nil] at hl
          rw [if_pos rfl, if_pos rfl]
          rw [ih m _ ((l.drop 1).drop 3) (by rw [List.length_drop, List.length_drop]; omega) (by rw [List.length_drop, List.length_drop]; omega)]
def srtR (acc : List S47) (l : List UInt8) : Option (S47 × List UInt8) := srtP (l.length + 1) acc l
theorem srtR_less {acc : List S47} {l : List UInt8} {p : S47 × List UInt8} (h : srtR acc l = some p) : p.2.length < l.length := srtP_less _ _ _ _ h
theorem srtR_open {acc : List S47} {l : List UInt8} (h : Lib.hasPrefix l [40] = true) : srtR acc l = (srtR [] (l.drop 1)).bind fun p => if p.1.f0.length = 0 then none else if Lib.hasPrefix p.2 [41, 32, 62, 32] then srtR (acc ++ [p.1]) (p.2.drop 4) else none := by
  have hl := hp_len h
  simp only [List.length_cons, List.length_nil] at hl
  unfold srtR
  rw [srtP, h, if_pos rfl, srtP_fuel l.length ((l.drop 1).length + 1) [] (l.drop 1) (by rw [List.length_drop]; omega) (by omega)]
  cases e : srtP ((l.drop 1).length + 1) [] (l.drop 1) with
  | none => rfl
  | some p =>
    have h3 := srtP_less _ _ _ _ e
    rw [List.length_drop] at h3
    simp only [Option.bind_some]
    rw [srtP_fuel l.length ((p.2.drop 4).length + 1) _ (p.2.drop 4) (by rw [List.length_drop]; omega) (by omega)]
theorem srtR_none {acc : List S47} {l : List UInt8} (h : Lib.hasPrefix l [40] = false) (h2 : Lib.hasPrefix l [111] = false) : srtR acc l = none := by
  unfold srtR
  rw [srtP, h, h2]
  rfl
theorem srtR_last {acc : List S47} {l : List UInt8} (h : Lib.hasPrefix l [40] = false) (h2 : Lib.hasPrefix l [111] = true) (h3 : Lib.hasPrefix (l.drop 1) [32, 62, 32] = false) : srtR acc l = some (⟨acc⟩, l.drop 1) := by
  unfold srtR
  rw [srtP, h, h2, h3]
  rfl
theorem srtR_more {acc : List S47} {l : List UInt8} (h : Lib.hasPrefix l [40] = false) (h2 : Lib.hasPrefix l [111] = true) (h3 : Lib.hasPrefix (l.drop 1) [32, 62, 32] = true) : srtR acc l = srtR (acc ++ [⟨[]⟩]) ((l.drop 1).drop 3) := by
  have hl := hp_len h2
  simp only [List.length_cons, List.length_nil] at hl
  unfold srtR
  rw [srtP, h, h2, h3]
  simp only [Bool.false_eq_true, if_false, if_true]
  exact srtP_fuel _ _ _ _ (by rw [List.length_drop, List.length_drop]; omega) (by omega)
structure RD (b : Nat) (s : ByteArray) (l : List UInt8) (W : World) : Prop where
  blk : W.heap[b]? = some (.cells #[.string s, .int .i64 ((s.size - l.length : Nat) : Int)] 142 (0, 0))
  suf : s.data.toList.drop (s.size - l.length) = l
theorem RD.le {b : Nat} {s : ByteArray} {l : List UInt8} {W : World} (h : RD b s l W) : l.length ≤ s.size := by
  have := congrArg List.length h.suf
  rw [List.length_drop, ← Lib.size_eq] at this
  omega
theorem RD.keep {b : Nat} {s : ByteArray} {l : List UInt8} {W W1 : World} (h : RD b s l W) (hb : Below W.heap.size W W1) : RD b s l W1 := ⟨blk_below h.blk hb, h.suf⟩
structure KR (b : Nat) (W W1 : World) : Prop where
  lo : Below b W W1
  keep : KeepBut W W1 b none
theorem KR.refl (b : Nat) (W : World) : KR b W W := ⟨Below.refl _ _, KeepBut.refl _ _ _⟩
theorem KR.trans {b : Nat} {W W1 W2 : World} (h : KR b W W1) (h2 : KR b W1 W2) : KR b W W2 := ⟨Below.trans h.lo h2.lo, Nat.le_trans h.keep.1 h2.keep.1, fun i hi hb hr => (h2.keep.2 i (Nat.lt_of_lt_of_le hi h.keep.1) hb hr).trans (h.keep.2 i hi hb hr)⟩
theorem KR.below {b : Nat} {W W1 : World} (hb : b ≤ W.heap.size) (h : Below W.heap.size W W1) : KR b W W1 := ⟨Below.mono h hb, KeepBut.of_below h _ _⟩
theorem KR.blk {b g : Nat} {W W1 : World} {o : Obj} (h : KR b W W1) (hg : g ≠ b) (h0 : W.heap[g]? = some o) : W1.heap[g]? = some o := (h.keep.2 g (blk_lt h0) hg (by simp)).trans h0
theorem KR.rr {α : Type} {d : Kd α} {e base b : Nat} {W W1 : World} {ok : Nat → Prop} {v : Value} {xs : List α} (h : KR b W W1) (hR : d.R e W base ok v xs) (hok : ∀ k, ok k → k ≠ b) : d.R e W1 base ok v xs := Kd.R_keep hR h.keep hok
def skp (l p : List UInt8) : List UInt8 := if Lib.hasPrefix l p = true then l.drop p.length else l
set_option maxHeartbeats 4000000 in
set_option maxRecDepth 100000 in
theorem take_calls (b : Nat) (s word : ByteArray) (l : List UInt8) (W : World) (h : RD b s l W) (hs : s.size ≤ 70000) (hw : word.size ≤ 10) :
    Calls Tryz.prog 130 #[.pointer (some ⟨b, 0, none⟩), .string word] W fun E w' => E = .returned (.bool (Lib.hasPrefix l word.data.toList)) ∧ RD b s (skp l word.data.toList) w' ∧ KR b W w' := by
  have hle := h.le
  have HLE := Aside0.mk (show s.size ≤ 70000 ∧ word.size ≤ 10 ∧ l.length ≤ s.size from ⟨hs, hw, hle⟩)
  have HB := Aside0.mk h
  have HS := Aside0.mk h.suf
  obtain ⟨p, hp⟩ : ∃ p : Nat, s.size - l.length = p := ⟨_, rfl⟩
  have hps : p ≤ s.size := by omega
  have hpp : (p : Int) ≤ (s.size : Int) := by omega
  have hb := h.blk
  rw [hp] at hb
  have HP := Aside0.mk hp
  have hx : (s.extract p s.size).data.toList = l := by rw [Lib.extract_to_end, ← hp, h.suf]
  have HPF := Aside0.mk (fun (W1 : World) => Tryz.strings_HasPrefix (s.extract p s.size) word W1)
  rw [hx] at HPF
  have HWL := Aside0.mk (show word.data.toList.length = word.size from (Lib.size_eq word).symm)
  clear hle hx hp h hs hw
  have HK := Aside0.mk (fun (W1 : World) (hW : Below W.heap.size W W1) => And.intro ((blk_cell (blk_below hb hW) 0).trans rfl : W1.cell? ⟨b, 0, none⟩ = some (.string s)) ((blk_cell (blk_below hb hW) 1).trans rfl : W1.cell? ⟨b, 1, none⟩ = some (.int .i64 (p : Int))))
  have hd := below_drew (Below.refl W.heap.size W)
  have HBB := Aside0.mk hb
  clear hb
  go_enter Tryz.func130, Tryz.ntmps130
  go_upto_region 1 with (fail)
  go_region_held3 (fun w' => w'.cell? ⟨b, 0, none⟩ = some (.string s) ∧ w'.cell? ⟨b, 1, none⟩ = some (.int .i64 (p : Int)))
    (first | exact HK.out _ hd | fail)
    (first | ((with_reducible refine (HPF.out _).mono ?_); rintro E w8 ⟨rfl, rfl⟩) | fail)
  cases q : Lib.hasPrefix l word.data.toList with
  | false =>
    have HR := Aside0.mk (show RD b s (skp l word.data.toList) W.drew from by unfold skp; rw [q, if_neg (by simp)]; exact (HB.out).keep hd)
    have HR2 := Aside0.mk (KR.below (show b ≤ W.heap.size from Nat.le_of_lt (blk_lt HBB.out)) hd)
    clear hd
    generalize W.drew = W1 at *
    go_wp2
    go_ret
    exact ⟨by rw [q]; rfl, HR.out, HR2.out⟩
  | true =>
    have HL := Aside0.mk (hp_len q)
    have HSK := Aside0.mk (show skp l word.data.toList = l.drop word.size from by unfold skp; rw [q, if_pos rfl, HWL.out])
    have HR2 := Aside0.mk (KR.below (show b ≤ W.heap.size from Nat.le_of_lt (blk_lt HBB.out)) hd)
    have HB1 := Aside0.mk (blk_below HBB.out hd)
    have p1 : W.drew.cell? ⟨b, 1, none⟩ = some (.int .i64 (p : Int)) := (HK.out _ hd).2
    have f1 : W.drew.frozen? ⟨b, 1, none⟩ = false := blk_frozen HB1.out 1
    clear hd HK HBB
    generalize W.drew = W1 at *
    go_wp2
    clear p1 f1
    go_ret
    have hw8 : wrap64 ((p : Int) + (word.size : Int)) = ((s.size - (l.drop word.size).length : Nat) : Int) := by
      have := HLE.out
      have h1 := HL.out
      rw [HWL.out] at h1
      have := HP.out
      rw [List.length_drop]
      unfold wrap64
      omega
    rw [HSK.out]
    refine ⟨by rw [q]; rfl, ⟨?_, ?_⟩, ?_, ?_⟩
    · refine (blk_set HB1.out 1 _).trans ?_
      rw [← hw8]
      first | rfl | (rw [wr_id (by have := HLE.out; omega) (by have := HLE.out; omega)]; rfl)
    · have h1 := HL.out
      rw [HWL.out] at h1
      have h2 := HP.out
      have h3 := HLE.out
      have h4 := HS.out
      rw [h2] at h4
      rw [List.length_drop, show s.size - (l.length - word.size) = p + word.size by omega, ← List.drop_drop, h4]
    · exact (HR2.out).lo.setCell (p := ⟨b, 1, none⟩) (Nat.le_refl _) _
    · exact (HR2.out).keep.set_ 1 _
end Go.Proofs.YthflpbgloeimfaaGreatDoor.H
namespace Go.Proofs.YthflpbgloeimfaaGreatDoor.H
open Go.RowKit Go.Proofs.YthflpbgloeimfaaGreatDoorW.PrintWords Go.Proofs.YthflpbgloeimfaaGreatDoorW.PrintLast Go.Proofs.YthflpbgloeimfaaGreatDoorW.PrintMore
open Go.Proofs.YthflpbgloeimfaaGreatDoor.Q (S47 k47 rd_T47 z47 at_T47 S50 k50 rd_T50 z50 at_T50 S52 k52 rd_T52 at_T52 z52 S71 k71 rd_T71 at_T71)
set_option linter.unusedVariables false
set_option linter.unusedSimpArgs false
def wf64 (x : Int) : Prop := (Lit.int .i64 x).wf = true
theorem wf64_of {x : Int} (h0 : 0 ≤ x) (h1 : x < 9223372036854775808) : wf64 x := by
  simp [wf64, Lit.wf, IntKind.min, IntKind.max, IntKind.signed, IntKind.bits]; omega
theorem keyInt : KeyB Tryz.prog 3 (Value.int .i64) wf64 where
  K := Go.Maps.int_keyed Tryz.underlying3
  lit := fun _ h => ⟨_, Go.Maps.keyOf_int_mk Tryz.underlying3 h⟩
  inj := fun x y h => by cases h; rfl
def truI (ns : List Int) : List (Int × Bool) := ns.map fun s => (s, true)
theorem truI_keys (ns : List Int) : (truI ns).map (·.1) = ns := by unfold truI; simp [Function.comp_def]
theorem mget_truI_not {ns : List Int} {x : Int} (h : x ∉ ns) : mget x (truI ns) = none := mget_none.2 (by rw [truI_keys]; exact h)
theorem mget_truI_mem {ns : List Int} {x : Int} (h : x ∈ ns) : mget x (truI ns) = some true := by
  induction ns with
  | nil => cases h
  | cons a r ih =>
    unfold truI mget at ih ⊢
    rw [List.map_cons, List.find?_cons]
    by_cases e : a = x
    · subst e; simp
    · simp only [decide_eq_false e]
      rcases List.mem_cons.1 h with rfl | h
      · exact absurd rfl e
      · exact ih h
theorem truI_snoc {ns : List Int} {x : Int} (h : x ∉ ns) : mput x true (truI ns) = truI (ns ++ [x]) := by
  rw [mput_new (by rw [truI_keys]; exact h)]
  unfold truI
  rw [List.map_append]
  rfl
def BornOk (w : World) (B : Nat) : Prop := ∃ ms ck, w.heap[B]? = some (.map ms ck) ∧ (ms.toList.map (·.born)).Nodup ∧ ∀ e ∈ ms.toList, e.born < ck
theorem BornOk.kept {w w1 : World} {B : Nat} (h : BornOk w B) (hb : w1.heap[B]? = w.heap[B]?) : BornOk w1 B := by
  obtain ⟨ms, ck, h1, h2⟩ := h
  exact ⟨ms, ck, hb.trans h1, h2⟩
theorem BornOk.new (w : World) : BornOk (w.alloc (.map #[] 0)) w.heap.size := ⟨#[], 0, heap_alloc_new w _, by simp, by simp⟩
theorem BornOk.lt {w : World} {B : Nat} (h : BornOk w B) : B < w.heap.size := by
  obtain ⟨ms, ck, h1, _⟩ := h
  exact (Array.getElem?_eq_some_iff.1 h1).1
theorem BornOk.below {w w1 : World} {B : Nat} (h : BornOk w B) (hb : Below w.heap.size w w1) : BornOk w1 B := h.kept (hb.block B h.lt)
theorem mapIs_put_born {κ ν : Type} [DecidableEq κ] {P : Program} {w : World} {B : Nat} {enc : κ → Value} {encV : ν → Value} {dom : κ → Prop} {es : List (κ × ν)} {k t e : TypeId} (h : MapIs w B enc encV dom es) (hb0 : BornOk w B) (H : KeyB P k enc dom) (ht : P.underlying t = some (.map k e)) {x : κ} (hx : dom x) (v : ν) (hnew : x ∉ es.map (·.1)) :
    ∃ w', (Instr.mapUpdate t (.map (some B)) (enc x) (encV v)).run P w = .ok () w' ∧ MapIs w' B enc encV dom (mput x v es) ∧ w.grownBy w' (some B) ∧ BornOk w' B := by
  obtain ⟨w', h1, h2, h3⟩ := MapIs.put h H ht hx v
  refine ⟨w', h1, h2, h3, ?_⟩
  have hlt := h.lt
  obtain ⟨⟨ms, ck, hb, hms⟩, hnd, hd⟩ := h
  obtain ⟨ms2, ck2, hb2, hn2, hc2⟩ := hb0
  rw [hb] at hb2
  cases hb2
  obtain ⟨l, hl⟩ := H.lit x hx
  rcases find_keys H hms hd hx w hnd with ⟨_, h5⟩ | ⟨u, j, h4, _, _⟩
  · have hrun : (Instr.mapUpdate t (.map (some B)) (enc x) (encV v)).run P w = .ok () (Go.ChangeMaps.setBlock w B (.map (ms.push ⟨enc x, encV v, ck⟩) (ck + 1))) := by
      simp [Instr.mapUpdate, run_underlying ht, MapKept.run_getObj_map hb, H.K.check w false hl, h5, MapKept.run_setObj_map _ hb, Result.andThen, Go.ChangeMaps.setBlock]
    rw [hrun] at h1
    cases h1
    refine ⟨ms.push ⟨enc x, encV v, ck⟩, ck + 1, by simp [Go.ChangeMaps.setBlock, hlt], ?_, ?_⟩
    · rw [Array.toList_push, List.map_append]
      refine List.nodup_append.2 ⟨hn2, by simp, fun a ha b hb' => ?_⟩
      obtain ⟨q, hq, rfl⟩ := List.mem_map.1 ha
      have : b = ck := by simpa using hb'
      rw [this]
      have := hc2 q hq
      omega
    · intro q hq
      rw [Array.toList_push] at hq
      rcases List.mem_append.1 hq with hq | hq
      · have := hc2 q hq; omega
      · rw [List.mem_singleton.1 hq]; exact Nat.lt_succ_self _
  · exfalso
    rw [mget_none.2 hnew] at h4
    cases h4
def pB (b : Nat) : Value := .pointer (some ⟨b, 0, none⟩)
structure RF (w W : World) (mb : Nat) (s1 s2 : Value) (M : List Int) : Prop where
  hb : Below w.heap.size w W
  hs : W.heap[w.heap.size]? = some (.cells #[s1, s2] 25 (0, 0))
  hp : W.heap[mb + 1]? = some (.cells #[.map (some mb)] 121 (0, 0))
  h6 : W.heap[mb + 2]? = some (.cells #[.func (.func 81) #[] #[pB (mb + 1), pB (mb + 3), pB w.heap.size]] 122 (0, 0))
  h7 : W.heap[mb + 3]? = some (.cells #[.func (.func 80) #[] #[pB (mb + 2), pB (mb + 3)]] 123 (0, 0))
  hm : MapIs W mb (Value.int .i64) Value.bool wf64 (truI M)
  hn : BornOk W mb
  lt : w.heap.size < mb
section
variable {w W W1 : World} {mb : Nat} {s1 s2 : Value} {M M1 : List Int}
theorem RF.call (h : RF w W mb s1 s2 M) (hk : KR mb W W1) (hm : MapIs W1 mb (Value.int .i64) Value.bool wf64 (truI M1)) (hn : BornOk W1 mb) : RF w W1 mb s1 s2 M1 :=
  ⟨Below.trans h.hb (Below.mono hk.lo (Nat.le_of_lt h.lt)), hk.blk (by have := h.lt; omega) h.hs, hk.blk (by omega) h.hp, hk.blk (by omega) h.h6, hk.blk (by omega) h.h7, hm, hn, h.lt⟩
theorem RF.size (h : RF w W mb s1 s2 M) : mb + 3 < W.heap.size := blk_lt h.h7
theorem RF.below (h : RF w W mb s1 s2 M) (hb : Below W.heap.size W W1) : RF w W1 mb s1 s2 M := h.call (KR.below (by have := h.size; omega) hb) (h.hm.below hb) (h.hn.below hb)
theorem RF.nodup (h : RF w W mb s1 s2 M) : M.Nodup := by
  have := h.hm.2.1
  rwa [truI_keys] at this
theorem RF.cells (h : RF w W mb s1 s2 M) : (W.cell? ⟨w.heap.size, 0, none⟩ = some s1 ∧ W.cell? ⟨w.heap.size, 1, none⟩ = some s2) ∧ W.cell? ⟨mb + 1, 0, none⟩ = some (.map (some mb)) ∧ W.cell? ⟨mb + 2, 0, none⟩ = some (.func (.func 81) #[] #[pB (mb + 1), pB (mb + 3), pB w.heap.size]) ∧ W.cell? ⟨mb + 3, 0, none⟩ = some (.func (.func 80) #[] #[pB (mb + 2), pB (mb + 3)]) :=
  ⟨⟨(blk_cell h.hs 0).trans rfl, (blk_cell h.hs 1).trans rfl⟩, (blk_cell h.hp 0).trans rfl, (blk_cell h.h6 0).trans rfl, (blk_cell h.h7 0).trans rfl⟩
end
def MtQ (fs : List S52) (w : World) (mb : Nat) (s1 s2 : Value) (M : List Int) (P : Int → Prop) (W : World) (E : Ending) (W1 : World) : Prop :=
  E = .returned (.tuple #[]) ∧ KR mb W W1 ∧ ∃ M1 : List Int, RF w W1 mb s1 s2 M1 ∧ DFS fs M M1 ∧ ∀ k, P k → k ∈ M1
def LookAt (fs : List S52) (w : World) (mb : Nat) (s1 s2 : Value) (U : Nat) (N : Nat) : Prop :=
  ∀ (t : S50), tN t ≤ N → ∀ (A : Option Addr) (c : Nat) (M : List Int) (W : World), Kd.C k50 w A t.f2.length t.f2 → RF w W mb s1 s2 M → (∀ x ∈ M, OkR fs x) → fs.length ≤ M.length + U → (∀ k, tC k t = true → OkR fs k) →
    Calls Tryz.prog 80 #[.agg #[.int .i64 t.f0, .int .i64 t.f1, .slice A t.f2.length c], pB (mb + 2), pB (mb + 3)] W (MtQ fs w mb s1 s2 M (fun k => tC k t = true) W)
def MeetAt (fs : List S52) (w : World) (mb : Nat) (s1 s2 : Value) (U : Nat) : Prop :=
  ∀ (f : Int) (M : List Int) (W : World), RF w W mb s1 s2 M → (∀ x ∈ M, OkR fs x) → fs.length ≤ M.length + U → OkR fs f →
    Calls Tryz.prog 81 #[.int .i64 f, pB (mb + 1), pB (mb + 3), pB w.heap.size] W (MtQ fs w mb s1 s2 M (fun k => k = f) W)
theorem upto_succ2 {P : Nat → Prop} {j : Nat} (h : ∀ i, i < j → P i) (hj : P j) : ∀ i, i < j + 1 → P i := fun i hi => by
  rcases Nat.lt_or_ge i j with h2 | h2
  · exact h i h2
  · rw [show i = j by omega]; exact hj
structure LB (w W1 : World) (b : Nat) (x y z : Value) : Prop where
  h : W1.heap[b]? = some (.cells #[x, y, z] 50 (0, 0))
theorem LB.cells {w W1 : World} {b : Nat} {x y z : Value} (h : LB w W1 b x y z) : W1.cell? ⟨b, 0, none⟩ = some x ∧ W1.cell? ⟨b, 1, none⟩ = some y ∧ W1.cell? ⟨b, 2, none⟩ = some z :=
  ⟨(blk_cell h.h 0).trans rfl, (blk_cell h.h 1).trans rfl, (blk_cell h.h 2).trans rfl⟩
set_option maxHeartbeats 8000000 in
set_option maxRecDepth 100000 in
theorem look_of {fs : List S52} {w : World} {mb : Nat} {s1 s2 : Value} {U : Nat} (hM : MeetAt fs w mb s1 s2 U) : ∀ N, N ≤ 1000 → LookAt fs w mb s1 s2 U N := by
  intro N
  induction N with
  | zero => intro _ t h; have := tN_pos t; omega
  | succ N ih =>
    intro hN t ht A c M W hC hF hok hU hk
    obtain ⟨kd, n, l⟩ := t
    rw [tN] at ht
    have IH := Aside0.mk (ih (by omega))
    have HM := Aside0.mk hM
    have HLEN := Aside0.mk (show l.length ≤ 1000 from by have := tLen_le (l := l); omega)
    have HNL := Aside0.mk (show tNL l ≤ N from by omega)
    have HC := Aside0.mk hC
    have HOK := Aside0.mk hok
    have HU := Aside0.mk hU
    have HK := Aside0.mk hk
    have HLT := Aside0.mk (show mb < W.heap.size from by have := hF.size; omega)
    have hba := below_alloc (Below.refl W.heap.size W) (.cells #[.int .i64 kd, .int .i64 n, .slice A l.length c] 50)
    have HF := Aside0.mk (hF.below hba)
    have HB := Aside0.mk (LB.mk (w := w) (blk_new W (.cells #[.int .i64 kd, .int .i64 n, .slice A l.length c] 50)))
    have HKR := Aside0.mk (KR.below (b := mb) (by have := HLT.out; omega) hba)
    clear ih hM hC hok hU hk hba hF ht
    show Calls Tryz.prog 80 #[.agg #[.int .i64 kd, .int .i64 n, .slice A l.length c], pB (mb + 2), pB (mb + 3)] W (MtQ fs w mb s1 s2 M (fun k => tC k ⟨kd, n, l⟩ = true) W)
    unfold pB
    go_enter Tryz.func80, Tryz.ntmps80
    go_upto_region 1 with (fail)
    generalize W.alloc (.cells #[.int .i64 kd, .int .i64 n, .slice A l.length c] 50) = W1 at *
    obtain ⟨p0, p1, p2⟩ := (HB.out).cells
    go_upto_if 8 with (fail)
    clear p0 p1 p2
    go_cut [] (fun wx => Aside0 (KR mb W wx) ∧ Aside0 (LB w wx W.heap.size (.int .i64 kd) (.int .i64 n) (.slice A l.length c)) ∧ ∃ M1 : List Int, Aside0 (RF w wx mb s1 s2 M1) ∧ Aside0 (DFS fs M M1) ∧ Aside0 (kd = 1 → n ∈ M1))
    case first =>
      by_cases hk1 : kd = 1
      · subst hk1
        obtain ⟨p0, p1, p2⟩ := (HB.out).cells
        obtain ⟨_, _, q6, _⟩ := (HF.out).cells
        unfold pB at q6
        have HC1 := Aside0.mk (HM.out n M W1 HF.out HOK.out HU.out (HK.out n (by rw [tC_iff]; exact .inl ⟨rfl, rfl⟩)))
        unfold pB at HC1
        go_wp2_with fail
        refine (HC1.out).mono ?_
        rintro E W2 ⟨rfl, hkr, M1, hF1, hD1, hn1⟩
        have HKR2 := Aside0.mk ((HKR.out).trans hkr)
        have HB2 := Aside0.mk (LB.mk (w := w) (hkr.blk (by have := HLT.out; omega) (HB.out).h))
        have HF2 := Aside0.mk hF1
        have HD2 := Aside0.mk hD1
        have HN2 := Aside0.mk (hn1 n rfl)
        clear hkr hF1 hD1 hn1 p0 p1 p2 q6 HC1
        go_wp2
        go_meet
        exact ⟨HKR2, HB2, M1, HF2, HD2, ⟨fun _ => HN2.out⟩⟩
      · have hk1z : (kd == 1) = false := by simpa using hk1
        have HK1 := Aside0.mk hk1
        clear hk1
        go_wp2
        go_meet
        exact ⟨HKR, HB, M, HF, ⟨DFS.refl HOK.out⟩, ⟨fun h => absurd h HK1.out⟩⟩
    case rest =>
      clear HKR HB HF
      obtain ⟨HKR, HB, M1, HF, HD, HN1⟩ := hcut
      obtain ⟨p0, p1, p2⟩ := (HB.out).cells
      go_wp2
      clear p0 p1 p2
      go_loopg [16] l.length (fun gg v16 wi => ∃ (j : Nat) (M2 : List Int), j ≤ l.length ∧ l.length - j ≤ gg ∧ v16 = .int .i64 j ∧ Aside0 (KR mb W wi) ∧ Aside0 (RF w wi mb s1 s2 M2) ∧ Aside0 (DFS fs M M2) ∧ Aside0 (kd = 1 → n ∈ M2) ∧ Aside0 (∀ i, i < j → ∀ k : Int, tC k (rd_T50 l (i : Int)) = true → k ∈ M2))
      case atStart => exact ⟨0, M1, Nat.zero_le _, Nat.le_refl _, rfl, HKR, HF, HD, HN1, ⟨fun i hi => absurd hi (Nat.not_lt_zero _)⟩⟩
      case round =>
        clear HKR HB HF HD HN1
        obtain ⟨j, M2, hj, hgg, rfl, HKR, HF, HD, HN1, HP⟩ := hrel
        by_cases hlt : j < l.length
        · have hltz : (j : Int) < (l.length : Int) := by omega
          have HLJ := Aside0.mk hlt
          obtain ⟨ad, A1, c1, e, hx0, hx1, hx2, hl1, hC1⟩ := at_T50 HC.out (j : Int) (by omega) hltz
          subst e
          rw [Int.toNat_natCast] at hx0 hx1 hx2
          replace hx0 := pw_cell_below (HF.out).hb hx0
          replace hx1 := pw_cell_below (HF.out).hb hx1
          replace hx2 := pw_cell_below (HF.out).hb hx2
          have HKZ := Aside0.mk (show wrap64 ((j : Int) + 1) = ((j + 1 : Nat) : Int) by rw [wr_id (by omega) (by have := HLEN.out; omega)]; rfl)
          have HTN := Aside0.mk (show tN (rd_T50 l (j : Int)) ≤ N from by rw [rdT_at hlt]; have := tN_mem (List.getElem_mem hlt); have := HNL.out; omega)
          have HTK := Aside0.mk (show ∀ k : Int, tC k (rd_T50 l (j : Int)) = true → OkR fs k from fun k hk => HK.out k (by rw [tC_iff]; right; exact ⟨_, List.getElem_mem hlt, by rwa [rdT_at hlt] at hk⟩))
          have HUP := Aside0.mk (fun (M3 : List Int) (hs : ∀ x ∈ M2, x ∈ M3) (h : ∀ k : Int, tC k (rd_T50 l (j : Int)) = true → k ∈ M3) => upto_succ2 (P := fun i => ∀ k : Int, tC k (rd_T50 l (i : Int)) = true → k ∈ M3) (fun i hi k hk => hs k (HP.out i hi k hk)) h)
          have HC1 := Aside0.mk hC1
          clear hC1 hl1 hlt HP
          generalize rd_T50 l (j : Int) = u at *
          have hnn : (0 : Int) ≤ (j : Int) := by omega
          go_upto_region 6 with (fail)
          have hba := below_alloc (Below.refl wr.heap.size wr) (.cells #[.int .i64 u.f0, .int .i64 u.f1, .slice A1 u.f2.length c1] 50)
          have HF2 := Aside0.mk ((HF.out).below hba)
          have HB2 := Aside0.mk (LB.mk (w := w) (blk_new wr (.cells #[.int .i64 u.f0, .int .i64 u.f1, .slice A1 u.f2.length c1] 50)))
          have HKR2 := Aside0.mk ((HKR.out).trans (KR.below (b := mb) (by have := (HF.out).size; omega) hba))
          clear hx0 hx1 hx2 hba HF HKR
          generalize wr.alloc (.cells #[.int .i64 u.f0, .int .i64 u.f1, .slice A1 u.f2.length c1] 50) = w5 at *
          generalize wr.heap.size = b5 at *
          obtain ⟨p0, p1, p2⟩ := (HB2.out).cells
          obtain ⟨_, _, _, q7⟩ := (HF2.out).cells
          have HCL := Aside0.mk (IH.out u HTN.out A1 c1 M2 w5 HC1.out HF2.out (HD.out).ok (by have := HU.out; have := (HD.out).len; omega) HTK.out)
          unfold pB at q7 HCL
          go_wp2_with fail
          refine (HCL.out).mono ?_
          rintro E w6 ⟨rfl, hkr, M3, hF3, hD3, hk3⟩
          have HKR3 := Aside0.mk ((HKR2.out).trans hkr)
          have HF3 := Aside0.mk hF3
          have HD3 := Aside0.mk ((HD.out).trans hD3)
          have HN3 := Aside0.mk (fun (h : kd = 1) => hD3.sub n (HN1.out h))
          have HP3 := Aside0.mk (HUP.out M3 hD3.sub hk3)
          clear hkr hF3 hD3 hk3 p0 p1 p2 q7 HCL HKR2 HF2 HD HN1 HUP HB2
          go_wp2
          go_roundg (l.length - (j + 1))
          case measure => have := HLJ.out; omega
          case rel => exact ⟨j + 1, M3, HLJ.out, Nat.le_refl _, by rw [HKZ.out], HKR3, HF3, HD3, HN3, HP3⟩
        · have hltz : ¬ (j : Int) < (l.length : Int) := by omega
          have HE := Aside0.mk (show ∀ k : Int, tC k ⟨kd, n, l⟩ = true → k ∈ M2 from fun k hk => by
            rcases tC_iff.1 hk with ⟨h1, h2⟩ | ⟨y, hy, hyk⟩
            · have h3 : n = k := h2
              rw [← h3]
              exact HN1.out h1
            · obtain ⟨i, hi, rfl⟩ := List.mem_iff_getElem.1 hy
              have hi2 : i < l.length := hi
              exact HP.out i (by omega) k (by rw [rdT_at hi2]; exact hyk))
          go_wp2
          go_end0
          exact ⟨rfl, HKR.out, M2, HF.out, HD.out, HE.out⟩
theorem body_room {fs : List S52} {M : List Int} {f : Int} (hn : M.Nodup) (hM : ∀ x ∈ M, OkR fs x) (hf : f ∉ M) (ho : OkR fs f) : M.length + 1 ≤ fs.length := by
  obtain ⟨j, rfl, hj, _⟩ := ho
  exact OkR.room hn hM hf (by omega) (by omega)
set_option maxHeartbeats 8000000 in
set_option maxRecDepth 100000 in
theorem meet_of {fs : List S52} {w : World} {mb : Nat} {s1 : Value} {A2 : Option Addr} {c2 : Nat} {U : Nat} (hF0 : Kd.C k52 w A2 fs.length fs) (hN : ∀ f ∈ fs, tN f.f2 ≤ 400) (hco : CallsOk fs) (hlen : fs.length ≤ 1000) (hL : ∀ U1, U = U1 + 1 → LookAt fs w mb s1 (.slice A2 fs.length c2) U1 400) : MeetAt fs w mb s1 (.slice A2 fs.length c2) U := by
  intro f M W hF hok hU ho
  have HF0 := Aside0.mk hF0
  have HL := Aside0.mk hL
  have HF := Aside0.mk hF
  have HOK := Aside0.mk hok
  have HO := Aside0.mk ho
  have HW := Aside0.mk (show wf64 f from by obtain ⟨j, rfl, hj, _⟩ := ho; exact wf64_of (by omega) (by omega))
  obtain ⟨_, qp, _, q7⟩ := hF.cells
  have hl := MapIs.look hF.hm keyInt Tryz.underlying121 (zero4 W) HW.out false
  unfold pB at q7 ⊢
  by_cases hm : f ∈ M
  · rw [mget_truI_mem hm] at hl
    simp only [Bool.false_eq_true, if_false] at hl
    have HM := Aside0.mk hm
    clear hF0 hN hco hlen hL hF hok hU ho hm q7
    go_enter Tryz.func81, Tryz.ntmps81
    go_wp2
    go_end0
    exact ⟨rfl, KR.refl _ _, M, HF.out, DFS.refl HOK.out, fun k hk => by rw [hk]; exact HM.out⟩
  · rw [mget_truI_not hm] at hl
    simp only [Bool.false_eq_true, if_false] at hl
    have hroom := body_room hF.nodup hok hm ho
    obtain ⟨U1, rfl⟩ : ∃ U1, U = U1 + 1 := ⟨U - 1, by omega⟩
    obtain ⟨w1, hput, HM1, hg1, hbn1⟩ := mapIs_put_born hF.hm hF.hn keyInt Tryz.underlying121 HW.out true (by rw [truI_keys]; exact hm)
    rw [truI_snoc hm] at HM1
    have HKR := Aside0.mk (show KR mb W w1 from ⟨pw_below_grown (Below.mono (Below.refl W.heap.size W) (by have := hF.size; omega)) _ (by have := hF.size; omega) hg1 (fun k hk => by cases hk; exact Nat.le_refl _), ⟨hg1.size, fun i hi hne _ => hg1.block i hi (fun e => hne (Option.some.inj e))⟩⟩)
    have HF1 := Aside0.mk (hF.call HKR.out HM1 hbn1)
    have HOK1 := Aside0.mk (show ∀ x ∈ M ++ [f], OkR fs x from fun x hx => by
      rcases List.mem_append.1 hx with hx | hx
      · exact hok x hx
      · rw [List.mem_singleton.1 hx]; exact ho)
    have HLK := Aside0.mk (HL.out U1 rfl)
    have HUM := Aside0.mk (show fs.length ≤ (M ++ [f]).length + U1 from by rw [List.length_append, List.length_singleton]; omega)
    obtain ⟨j, rfl, hj, hr⟩ := ho
    have HBK := Aside0.mk (show ∀ k : Int, tC k (fs[j].f2) = true → OkR fs k from fun k hk => by
      obtain ⟨h1, h2⟩ := hco j hj k hk
      exact ⟨k.toNat, by omega, by omega, Rch.step hr hj (by rwa [show ((k.toNat : Nat) : Int) = k by omega])⟩)
    have HTN := Aside0.mk (hN _ (List.getElem_mem hj))
    have HAT := Aside0.mk (bodyAt_at hj)
    obtain ⟨ad, As, cs, At, ct, e, hx0, hx1, hx2, hx3, hx4, hls, hCs, hlt4, hCt⟩ := at_T52 HF0.out (j : Int) (by omega) (by omega)
    subst e
    rw [rdF_at hj] at hx0 hx1 hx2 hx3 hx4 hls hCs hlt4 hCt
    rw [Int.toNat_natCast] at hx0 hx1 hx2 hx3 hx4
    have hjz : (j : Int) < (fs.length : Int) := by omega
    have hnn : (0 : Int) ≤ (j : Int) := by omega
    have HCt := Aside0.mk hCt
    have HX := Aside0.mk (fun (W3 : World) (hW : Below w.heap.size w W3) => And.intro (pw_cell_below hW hx2) (And.intro (pw_cell_below hW hx3) (pw_cell_below hW hx4)))
    clear hF0 hN hco hlen hL hF hok hU hm hroom HM1 hg1 hbn1 hx0 hx1 hx2 hx3 hx4 hls hCs hlt4 hCt hr HF HOK HO HL
    generalize fs[j] = fn at *
    go_enter Tryz.func81, Tryz.ntmps81
    go_upto_region 2 with (fail)
    clear qp q7 hl hput
    have hd := below_drew (Below.refl w1.heap.size w1)
    have HFD := Aside0.mk ((HF1.out).below hd)
    have HKD := Aside0.mk ((HKR.out).trans (KR.below (b := mb) (by have := (HF1.out).size; omega) hd))
    have HC := Aside0.mk (HLK.out fn.f2 HTN.out At ct (M ++ [(j : Int)]) w1.drew HCt.out HFD.out HOK1.out HUM.out HBK.out)
    have HS := Aside0.mk (fun (W3 : World) (M3 : List Int) (hF3 : RF w W3 mb s1 (.slice (some ad) fs.length c2) M3) => (show (W3.cell? ⟨mb + 3, 0, none⟩ = some (.func (.func 80) #[] #[.pointer (some ⟨mb + 2, 0, none⟩), .pointer (some ⟨mb + 3, 0, none⟩)]) ∧ W3.cell? ⟨w.heap.size, 1, none⟩ = some (.slice (some ad) fs.length c2)) ∧ W3.cell? ⟨(ad.add (j * 5)).block, (ad.add (j * 5)).off + 2, none⟩ = some (.int .i64 fn.f2.f0) ∧ W3.cell? ⟨(ad.add (j * 5)).block, (ad.add (j * 5)).off + 3, none⟩ = some (.int .i64 fn.f2.f1) ∧ W3.cell? ⟨(ad.add (j * 5)).block, (ad.add (j * 5)).off + 4, none⟩ = some (.slice At fn.f2.f2.length ct) from
      ⟨⟨hF3.cells.2.2.2, hF3.cells.1.2⟩, HX.out W3 hF3.hb⟩))
    unfold pB at HC
    unfold MtQ at HC
    go_region_held3 (fun W3 => (W3.cell? ⟨mb + 3, 0, none⟩ = some (.func (.func 80) #[] #[.pointer (some ⟨mb + 2, 0, none⟩), .pointer (some ⟨mb + 3, 0, none⟩)]) ∧ W3.cell? ⟨w.heap.size, 1, none⟩ = some (.slice (some ad) fs.length c2)) ∧ W3.cell? ⟨(ad.add (j * 5)).block, (ad.add (j * 5)).off + 2, none⟩ = some (.int .i64 fn.f2.f0) ∧ W3.cell? ⟨(ad.add (j * 5)).block, (ad.add (j * 5)).off + 3, none⟩ = some (.int .i64 fn.f2.f1) ∧ W3.cell? ⟨(ad.add (j * 5)).block, (ad.add (j * 5)).off + 4, none⟩ = some (.slice At fn.f2.f2.length ct))
      (first | exact HS.out _ _ hF3 | exact HS.out _ _ HFD.out | fail)
      (first
        | (go_at_call 80; with_reducible refine (HC.out).mono ?_; rintro E w3 ⟨rfl, hkr, M3, hF3, hD3, hk3⟩)
        | fail)
    have HQ := Aside0.mk (show KR mb W w3 ∧ RF w w3 mb s1 (.slice (some ad) fs.length c2) M3 ∧ DFS fs M M3 ∧ (j : Int) ∈ M3 from
      ⟨(HKD.out).trans hkr, hF3, hD3.meet (by rw [HAT.out]; exact hk3), hD3.sub _ (by simp)⟩)
    clear hkr hF3 hD3 hk3 HC HS HX HFD HKD
    go_wp2
    go_end0
    exact ⟨rfl, (HQ.out).1, M3, (HQ.out).2.1, (HQ.out).2.2.1, fun k hk => by rw [hk]; exact (HQ.out).2.2.2⟩
theorem meet_all {fs : List S52} {w : World} {mb : Nat} {s1 : Value} {A2 : Option Addr} {c2 : Nat} (hF0 : Kd.C k52 w A2 fs.length fs) (hN : ∀ f ∈ fs, tN f.f2 ≤ 400) (hco : CallsOk fs) (hlen : fs.length ≤ 1000) : ∀ U, MeetAt fs w mb s1 (.slice A2 fs.length c2) U := by
  intro U
  induction U with
  | zero => exact meet_of hF0 hN hco hlen (fun U1 h => by omega)
  | succ U ih =>
    refine meet_of hF0 hN hco hlen fun U1 h => ?_
    obtain rfl : U1 = U := by omega
    exact look_of ih 400 (by omega)
end Go.Proofs.YthflpbgloeimfaaGreatDoor.H
