/- The least graph, as lists: plain definitions, and spec.least's walk. -/
import Derived.Test.YtmphigeefppfpaaHh
import Derived.Test.YtmphigeefppfpaaHk
import Derived.Laws.Rows
namespace Go.Proofs.Ytmphigeefppfpaa.H
open Go.RowKit Go.Proofs.YtmphigeefppfpaaW.PrintWords Go.Proofs.YtmphigeefppfpaaW.PrintLast Go.Proofs.YtmphigeefppfpaaW.PrintMore
set_option linter.unusedVariables false

theorem Q_rdL_at {xs : List (List Int)} {j : Nat} (h : j < xs.length) : Q.rd_L1 xs (j : Int) = xs[j] := by
  simp [Q.rd_L1, List.getD_eq_getElem?_getD, List.getElem?_eq_getElem h]
def faceV (c : List Int) (r : Int) : Int := if r < 0 then -1 else rd c r
/-- The face of a state behind e events: its class, the classes behind its events, noughts. -/
def faceTo (c : List Int) (h : Int) (row : List Int) (e : Nat) : List Int := (h :: (row.take e).map (faceV c)) ++ List.replicate (17 - (e + 1)) 0
def face (c : List Int) (g : List (List Int)) (q : Nat) : List Int := faceTo c (rd c q) (Q.rd_L1 g q) (Q.rd_L1 g q).length
/-- The faces of the first j states, each once, and these states' numbers. -/
def facesTo (c : List Int) (g : List (List Int)) : Nat → List (List Int) × List Int
  | 0 => ([], [])
  | j + 1 => (ins (facesTo c g j).1 (face c g j), (facesTo c g j).2 ++ [(place (face c g j) (facesTo c g j).1 : Int)])
/-- The classes, and how many they were, behind k rounds. -/
def clsTo (g : List (List Int)) : Nat → List Int × Nat
  | 0 => (List.replicate g.length 0, 1)
  | k + 1 => ((facesTo (clsTo g k).1 g g.length).2, (facesTo (clsTo g k).1 g g.length).1.length)

def faceW (c : List Int) (h : Int) (row : List Int) (e : Nat) (v : Int) : List Int := ((h :: (row.take e).map (faceV c)) ++ [v]) ++ List.replicate (17 - (e + 1 + 1)) 0
theorem faceTo_len {c : List Int} {h : Int} {row : List Int} {e : Nat} (he : e ≤ row.length) (hr : row.length ≤ 16) : (faceTo c h row e).length = 17 := by
  simp [faceTo, List.length_take]; omega
theorem faceTo_set {c : List Int} {h : Int} {row : List Int} {e : Nat} (he : e < row.length) (hr : row.length ≤ 16) (v : Int) : (faceTo c h row e).set (e + 1) v = faceW c h row e v := by
  unfold faceTo faceW
  exact set_next (by simp [List.length_take]; omega) (by omega) v
theorem faceW_set {c : List Int} {h : Int} {row : List Int} {e : Nat} (he : e < row.length) (u v : Int) : (faceW c h row e u).set (e + 1) v = faceW c h row e v := by
  unfold faceW
  exact set_last (by simp [List.length_take]; omega) u v
theorem faceTo_succ {c : List Int} {h : Int} {row : List Int} {e : Nat} (he : e < row.length) : faceTo c h row (e + 1) = faceW c h row e (faceV c (rd row e)) := by
  unfold faceTo faceW
  rw [List.take_succ_eq_append_getElem he, List.map_append, rd_at he]
  simp
def cellsOfL (xs : List Int) : Array Value := (xs.map (Value.int .i64)).toArray
theorem cells_set (xs : List Int) (i : Nat) (v : Int) : (cellsOfL xs).setIfInBounds i (.int .i64 v) = cellsOfL (xs.set i v) := by
  simp [cellsOfL, List.map_set]
theorem cells_at {xs : List Int} {i : Nat} (h : i < xs.length) : (cellsOfL xs)[i]? = some (.int .i64 xs[i]) := by
  simp [cellsOfL, h]
theorem facesTo_len (c : List Int) (g : List (List Int)) (j : Nat) : (facesTo c g j).2.length = j := by
  induction j with
  | zero => rfl
  | succ j ih => simp [facesTo, ih]
theorem clsTo_len (g : List (List Int)) (k : Nat) : (clsTo g k).1.length = g.length := by
  cases k with
  | zero => simp [clsTo]
  | succ k => simp only [clsTo]; exact facesTo_len _ _ _
theorem facesTo_many (c : List Int) (g : List (List Int)) (j : Nat) : (facesTo c g j).1.length ≤ j := by
  induction j with
  | zero => simp [facesTo]
  | succ j ih =>
    simp only [facesTo, ins]
    split
    · omega
    · simp; omega
theorem facesTo_range (c : List Int) (g : List (List Int)) (j : Nat) : ∀ x ∈ (facesTo c g j).2, 0 ≤ x ∧ x < (j : Int) := by
  induction j with
  | zero => simp [facesTo]
  | succ j ih =>
    intro x hx
    simp only [facesTo, List.mem_append, List.mem_singleton] at hx
    rcases hx with hx | hx
    · have := ih x hx; omega
    · have h1 := facesTo_many c g j
      have h2 := place_le (facesTo c g j).1 (face c g j)
      omega
theorem clsTo_range (g : List (List Int)) (h : 1 ≤ g.length) (k : Nat) : ∀ x ∈ (clsTo g k).1, 0 ≤ x ∧ x < (g.length : Int) := by
  cases k with
  | zero =>
    intro x hx
    simp only [clsTo, List.mem_replicate] at hx
    omega
  | succ k => exact facesTo_range _ _ _

theorem face_dom {c : List Int} {h : Int} {row : List Int} {e N : Nat} (hc : ∀ x ∈ c, 0 ≤ x ∧ x < (N : Int)) (hN : N ≤ 5000) (hh : 0 ≤ h ∧ h < (N : Int)) (hrow : ∀ r ∈ row, r < (c.length : Int)) (he : e ≤ row.length) (hr : row.length ≤ 16) : (faceTo c h row e).length = 17 ∧ ∀ x ∈ faceTo c h row e, (Lit.int .i64 x).wf = true := by
  refine ⟨faceTo_len he hr, fun x hx => ?_⟩
  have hb : -1 ≤ x ∧ x < 5000 := by
    simp only [faceTo, List.mem_append, List.mem_cons, List.mem_map, List.mem_replicate] at hx
    rcases hx with (rfl | ⟨r, hr1, rfl⟩) | ⟨_, rfl⟩
    · omega
    · unfold faceV
      split
      · omega
      · have h1 := hrow r (List.mem_of_mem_take hr1)
        have h2 : r.toNat < c.length := by omega
        have h3 := hc (rd c r) (by simp [rd, List.getD_eq_getElem?_getD, List.getElem?_eq_getElem h2])
        omega
    · omega
  simp [Lit.wf, IntKind.min, IntKind.max, IntKind.signed, IntKind.bits]; omega

def dom17 (xs : List Int) : Prop := xs.length = 17 ∧ ∀ x ∈ xs, (Lit.int .i64 x).wf = true
theorem keyFace : KeyB Try.prog 84 (encA .i64) dom17 := keyArr (P := Try.prog) (e := 3) (n := 17) (by kernel_rfl) (of_decide_eq_true (by kernel_rfl)) (by kernel_rfl) (by kernel_rfl) Try.underlying84 Try.underlying3 (by kernel_rfl) (by kernel_rfl) (of_decide_eq_true (by kernel_rfl))

theorem grown_setCell (W : World) (p : Addr) (u : Value) : W.grownBy (W.setCell p u) (some p.block) :=
  ⟨rfl, rfl, rfl, by simp [World.setCell], fun i _ hne => Below.heap_setCell W p u i (fun e => hne (by rw [e]))⟩
/-- What stands beside the face that is being filled. -/
structure LS (w W : World) (gb cb MB : Nat) (gv cv nv : Value) (Sc Sn : Nat → Prop) (c next : List Int) (F : List (List Int)) : Prop where
  hb : Below w.heap.size w W
  hg : W.heap[gb]? = some (.cells #[gv] 67 (0, 0))
  hc : W.heap[cb]? = some (.cells #[cv] 25 (0, 0))
  hC : Kd.R (Kd.int .i64) 3 W w.heap.size Sc cv c
  hN : Kd.R (Kd.int .i64) 3 W w.heap.size Sn nv next
  hM : MapIs W MB (encA .i64) encN dom17 F.zipIdx
  hd : Disj Sc Sn
section
variable {w W W1 : World} {gb cb MB fb : Nat} {gv cv nv : Value} {Sc Sn : Nat → Prop} {c next : List Int} {F : List (List Int)} {cells : Array Value} {T : TypeId}
theorem LS.below (h : LS w W gb cb MB gv cv nv Sc Sn c next F) (hb : Below W.heap.size W W1) : LS w W1 gb cb MB gv cv nv Sc Sn c next F :=
  ⟨below_then h.hb h.hb.size hb, blk_below h.hg hb, blk_below h.hc hb, Kd.R_below h.hC hb, Kd.R_below h.hN hb, MapIs.below h.hM hb, h.hd⟩
theorem R_offrow {α : Type} {d : Kd α} {e base : Nat} {S : Nat → Prop} {v : Value} {xs : List α} (h : d.R e W base S v xs) (hr : W.heap[fb]? = some (.cells cells T (0, 0))) (ht : ∀ q, q ∈ e :: d.E → q ≠ T) (hg : W.grownBy W1 (some fb)) : d.R e W1 base S v xs :=
  Kd.R_mono (Kd.R_grown (Kd.R_types h hr ht) hg (fun k hk he => hk.2 (by injection he))) (fun _ hk => hk.1)
theorem LS.far (h : LS w W gb cb MB gv cv nv Sc Sn c next F) (hr : W.heap[fb]? = some (.cells cells 84 (0, 0))) (hfb : w.heap.size ≤ fb) (hg : W.grownBy W1 (some fb)) : LS w W1 gb cb MB gv cv nv Sc Sn c next F :=
  ⟨pw_below_grown h.hb _ h.hb.size hg (fun k hk => by cases hk; exact hfb), blk_grown h.hg hg (fun e => by injection e with e; exact blk_ne h.hg hr (by decide) e), blk_grown h.hc hg (fun e => by injection e with e; exact blk_ne h.hc hr (by decide) e),
   R_offrow h.hC hr (by simp [Kd.int, Kd.scalar]) hg, R_offrow h.hN hr (by simp [Kd.int, Kd.scalar]) hg, h.hM.grown hg (fun e => by injection e with e; exact h.hM.ne_row hr e.symm), h.hd⟩
/-- The next row is written. -/
theorem LS.step {next' : List Int} {nb n cn : Nat} (h : LS w W gb cb MB gv cv (.slice (some ⟨nb, 0, none⟩) n cn) Sc Sn c next F) (hr : Kd.R (Kd.int .i64) 3 W1 w.heap.size Sn (.slice (some ⟨nb, 0, none⟩) n cn) next') (hg : W.grownBy W1 (some nb)) : LS w W1 gb cb MB gv cv (.slice (some ⟨nb, 0, none⟩) n cn) (fun k => Sc k ∧ k < W.heap.size) Sn c next' F := by
  obtain ⟨cells, hty⟩ := Kd.R_typed h.hN nb rfl
  exact ⟨pw_below_grown h.hb _ h.hb.size hg (Kd.R_base h.hN), blk_grown h.hg hg (fun e => by injection e with e; exact blk_ne h.hg hty (by decide) e), blk_grown h.hc hg (fun e => by injection e with e; exact blk_ne h.hc hty (by decide) e),
    R_stay h.hC hg (fun k hk hs => h.hd k hs (h.hN.1 k hk)), hr, h.hM.grown hg (fun e => by injection e with e; exact h.hM.ne_row hty e.symm), fun k ha hb => h.hd k ha.1 hb⟩
/-- The map is written. -/
theorem LS.map {F' : List (List Int)} (h : LS w W gb cb MB gv cv nv Sc Sn c next F) (hMB : w.heap.size ≤ MB) (hm : MapIs W1 MB (encA .i64) encN dom17 F'.zipIdx) (hg : W.grownBy W1 (some MB)) : LS w W1 gb cb MB gv cv nv (fun k => Sc k ∧ k < W.heap.size) (fun k => Sn k ∧ k < W.heap.size) c next F' := by
  have hmb : ∀ {α : Type} {d : Kd α} {e base : Nat} {S : Nat → Prop} {v : Value} {xs : List α}, d.R e W base S v xs → d.R e W1 base (fun k => S k ∧ k < W.heap.size) v xs := fun hh =>
    Kd.R_mono (Kd.R_step (Kd.R_bound hh) (fun k hk hlt => hg.block k hlt (fun he => by
      cases he
      obtain ⟨_, _, _, q, _, cells, hc⟩ := hk
      exact h.hM.ne_row hc rfl))) (fun k hk => ⟨hk.1, hk.2.2.1⟩)
  exact ⟨pw_below_grown h.hb _ h.hb.size hg (fun k hk => by cases hk; exact hMB), blk_grown h.hg hg (fun e => by injection e with e; exact h.hM.ne_row h.hg e), blk_grown h.hc hg (fun e => by injection e with e; exact h.hM.ne_row h.hc e), hmb h.hC, hmb h.hN, hm, h.hd.less _⟩
end

/-- The least graph's rows, as the classes say them. -/
def leastOf (n : Nat) (g : List (List Int)) (K : List Int) : List (List Int) := (bfsTo n (stepL g K) (rd K 0) g.length).1
def LeastEnd (n : Nat) (g : List (List Int)) (K : List Int) (w : World) (E : Ending) (w' : World) : Prop := ∃ (ov : Value) (So : Nat → Prop), E = .returned ov ∧ Kd.R (Kd.slice 3 (Kd.int .i64)) 25 w' w.heap.size So ov (leastOf n g K) ∧ Below w.heap.size w w'
set_option maxHeartbeats 4000000 in
set_option maxRecDepth 100000 in
theorem least_calls (n : Nat) (g : List (List Int)) (A : Option Addr) (cg : Nat) (k m : Nat) (w : World) (hr : Kd.C (Kd.slice 3 (Kd.int .i64)) w A g.length g) (hn : n ≤ 16) (hg0 : 1 ≤ g.length) (hg1 : g.length ≤ 5000) (hok : graphOk n g)
    (hk : (clsTo g (k + 1)).2 = (clsTo g k).2) (hmin : ∀ j, j < k → (clsTo g (j + 1)).2 ≠ (clsTo g j).2) :
    Calls Try.prog 48 #[.int .i64 n, .slice A g.length cg] w (LeastEnd n g (clsTo g (k + 1)).1 w) := by
  have hmm := @run_makeMap Try.prog
  have HR := Aside0.mk hr
  have HOK := Aside0.mk hok
  have HK := Aside0.mk hk
  have HMIN := Aside0.mk hmin
  clear hr hok hk hmin
  go_enter Try.func48, Try.ntmps48
  go_wp2_with ((with_reducible refine gate_dst (N := 22) rfl ?_); refine Kd.R_make (Kd.int .i64) w.heap.size 3 rfl (N := 22) rfl 25 _ _ rfl (g.length : Int) rfl rfl Try.underlying25 (.int .i64 0) 8 info3 rfl (by decide) (by omega) 0 (ok := fun _ => True) (okp := fun _ => True) rfl (fun _ hk => hk) trivial (by omega) (by omega) (below_alloc (Below.refl _ _) _) (by simp) ?_; intro v1 w1 hr1 hb1 hg1 hnew1; obtain ⟨b1, hb2, _⟩ := hnew1; obtain ⟨c1, hv1⟩ := R_formB hr1 hb2; rw [List.length_replicate, Int.toNat_natCast] at hv1; subst hv1; rw [Int.toNat_natCast] at hr1; have HC1 := Aside0.mk hr1; have HB1 := Aside0.mk hb1; have HX1 := Aside0.mk (blk_grown (blk_new w (.cells #[.slice A g.length cg] 67)) hg1 (by simp)); clear hr1 hb1 hg1 hb2)
  have HB2 := Aside0.mk (below_alloc HB1.out (.cells #[.slice (some ⟨b1, 0, none⟩) g.length c1] 25))
  have HC2 := Aside0.mk (Kd.R_alloc HC1.out (.cells #[.slice (some ⟨b1, 0, none⟩) g.length c1] 25))
  have HX2 := Aside0.mk (blk_alloc HX1.out (.cells #[.slice (some ⟨b1, 0, none⟩) g.length c1] 25))
  have HY2 := Aside0.mk (blk_new w1 (.cells #[.slice (some ⟨b1, 0, none⟩) g.length c1] 25))
  have HCB := Aside0.mk (HB1.out).size
  clear HB1 HC1 HX1
  generalize w1.heap.size = cb at *
  generalize (w1.alloc (.cells #[.slice (some ⟨b1, 0, none⟩) g.length c1] 25)) = w2 at *
  go_loopg [6] k (fun gg v6 wr => ∃ (j : Nat) (cv : Value) (Sc : Nat → Prop), j ≤ k ∧ k - j ≤ gg ∧ v6 = .int .i64 (clsTo g j).2 ∧ Aside0 (Below w.heap.size w wr) ∧ Aside0 (wr.heap[w.heap.size]? = some (.cells #[.slice A g.length cg] 67 (0, 0))) ∧
    Aside0 (wr.heap[cb]? = some (.cells #[cv] 25 (0, 0))) ∧ Aside0 (Kd.R (Kd.int .i64) 3 wr w.heap.size Sc cv (clsTo g j).1))
  case atStart => exact ⟨0, _, fun _ => True, by omega, by omega, rfl, HB2, HX2, HY2, HC2⟩
  case round =>
    clear HB2 HX2 HY2 HC2
    obtain ⟨j, cv, Sc, hjk, hgg, rfl, HB, HX, HY, HC⟩ := hrel
    obtain ⟨Ac, cc, hcv⟩ := Kd.R_slice HC.out
    have hcl := clsTo_len g j
    rw [hcl] at hcv
    subst hcv
    have HCL := Aside0.mk hcl
    clear hcl
    go_upto_region 4 with (fail)
    have HM := Aside0.mk (mapIs_new (ν := Nat) wr (encA .i64) encN dom17)
    have HBm := Aside0.mk (below_alloc HB.out (.map #[] 0))
    have HXm := Aside0.mk (blk_alloc HX.out (.map #[] 0))
    have HYm := Aside0.mk (blk_alloc HY.out (.map #[] 0))
    have HCm := Aside0.mk (Kd.R_mono (Kd.R_bound (Kd.R_alloc HC.out (.map #[] 0))) (fun k hk => (⟨hk.1, hk.2.2.1⟩ : Sc k ∧ k < (wr.alloc (.map #[] 0)).heap.size)))
    have HMB := Aside0.mk (HB.out).size
    clear HB HX HY HC
    generalize (wr.alloc (.map #[] 0)) = wa at *
    generalize wr.heap.size = MB at *
    have hz0 : wa.cell? ⟨w.heap.size, 0, none⟩ = some (.slice A g.length cg) := (blk_cell HXm.out 0).trans rfl
    go_upto_region 5 with ((with_reducible refine gate_dst (N := 26) rfl ?_); refine Kd.R_make (Kd.int .i64) w.heap.size 3 rfl (N := 26) rfl 25 _ _ rfl (g.length : Int) rfl rfl Try.underlying25 (.int .i64 0) 8 info3 rfl (by decide) (by omega) 0 (ok := fun k => wa.heap.size ≤ k) (okp := fun _ => False) rfl (fun _ hk => hk.elim) (Nat.le_refl _) (by omega) (by omega) HBm.out (HBm.out).size ?_; intro v3 w3 hr3 hb3 hg3 hnew3)
    obtain ⟨nb, hnb, _⟩ := hnew3
    obtain ⟨cn, hv3⟩ := R_formB hr3 hnb
    rw [List.length_replicate, Int.toNat_natCast] at hv3
    subst hv3
    rw [Int.toNat_natCast] at hr3
    have HL3 := Aside0.mk (LS.mk (nv := .slice (some ⟨nb, 0, none⟩) g.length cn) (MB := MB) (F := []) hb3 (blk_grown HXm.out hg3 (by simp)) (blk_grown HYm.out hg3 (by simp)) (Kd.R_grown HCm.out hg3 (by simp)) hr3 ((HM.out).grown hg3 (by simp)) (fun k ha hb => by have := ha.2; omega))
    clear hr3 hb3 hg3 hnb HM HBm HXm HYm HCm hz0
    generalize (fun k => Sc k ∧ k < wa.heap.size) = Sc3 at *
    generalize (fun k => wa.heap.size ≤ k) = Sn3 at *
    have hz0 : w3.cell? ⟨w.heap.size, 0, none⟩ = some (.slice A g.length cg) := (blk_cell (HL3.out).hg 0).trans rfl
    go_wp2
    clear hz0
    go_loopg [29] g.length (fun gg2 v29 wi => ∃ (q : Nat) (Sc Sn : Nat → Prop), q ≤ g.length ∧ g.length - q ≤ gg2 ∧ v29 = .int .i64 q ∧ Aside0 (LS w wi w.heap.size cb MB (.slice A g.length cg) (.slice Ac g.length cc) (.slice (some ⟨nb, 0, none⟩) g.length cn) Sc Sn (clsTo g j).1 ((facesTo (clsTo g j).1 g q).2 ++ List.replicate (g.length - q) 0) (facesTo (clsTo g j).1 g q).1))
    case atStart => exact ⟨0, Sc3, Sn3, by omega, by omega, rfl, HL3⟩
    case round =>
      clear HL3
      obtain ⟨q, Sc, Sn, hqg, hg2, rfl, HL⟩ := hrel
      by_cases hlt : q < g.length
      · have hltz : (q : Int) < (g.length : Int) := by omega
        obtain ⟨adg, Ar, cr, e0, hxr0, hlr, hrr⟩ := Q.at_L1 HR.out (q : Int) (by omega) hltz
        cases e0
        rw [Int.toNat_natCast] at hxr0
        have hxr := pw_cell_below (HL.out).hb hxr0
        have hqc : (q : Int) < ((clsTo g j).1.length : Int) := by rw [HCL.out]; omega
        obtain ⟨adc, e0, hxc⟩ := Kd.at_int (Kd.R_reads' (HL.out).hC).2.2 (q : Int) (by omega) (by have := HCL.out; omega)
        cases e0
        rw [Int.toNat_natCast] at hxc
        have hz1 : wr.cell? ⟨cb, 0, none⟩ = some (.slice (some adc) g.length cc) := (blk_cell (HL.out).hc 0).trans rfl
        have HRR := Aside0.mk hrr
        clear hrr hqc
        go_upto_region 9 with (fail)
        have hylen := (HOK.out _ (List.getElem_mem hlt)).1
        have hyr := (HOK.out _ (List.getElem_mem hlt)).2
        rw [← Q_rdL_at hlt] at hylen hyr
        have HYR := Aside0.mk hyr
        have HCR := Aside0.mk (clsTo_range g hg0 j _ (rd_mem (k := q) (by have := HCL.out; omega)))
        have HFC := Aside0.mk (show face (clsTo g j).1 g q = faceTo (clsTo g j).1 (rd (clsTo g j).1 q) (Q.rd_L1 g q) (Q.rd_L1 g q).length from rfl)
        have HF4 := Aside0.mk (show (wr.alloc (.cells (cellsOfL (faceTo (clsTo g j).1 (rd (clsTo g j).1 q) (Q.rd_L1 g q) 0)) 84)).heap[wr.heap.size]? = some (.cells (cellsOfL (faceTo (clsTo g j).1 (rd (clsTo g j).1 q) (Q.rd_L1 g q) 0)) 84 (0, 0)) from blk_new _ _)
        have HL4 := Aside0.mk ((HL.out).below (below_alloc (Below.refl wr.heap.size wr) (.cells (cellsOfL (faceTo (clsTo g j).1 (rd (clsTo g j).1 q) (Q.rd_L1 g q) 0)) 84)))
        have HFB := Aside0.mk ((HL.out).hb).size
        clear hyr hxr hxr0 hxc hz1
        generalize Q.rd_L1 g (q : Int) = y at *
        generalize rd (clsTo g j).1 (q : Int) = h at *
        have hworld : (wr.alloc (.cells (cellsOfL (faceTo (clsTo g j).1 h y 0)) 84)) = (wr.alloc (.cells #[.int .i64 h, .int .i64 0, .int .i64 0, .int .i64 0, .int .i64 0, .int .i64 0, .int .i64 0, .int .i64 0, .int .i64 0, .int .i64 0, .int .i64 0, .int .i64 0, .int .i64 0, .int .i64 0, .int .i64 0, .int .i64 0, .int .i64 0] 84)) := rfl
        rw [hworld] at HF4 HL4
        clear hworld
        generalize (wr.alloc (.cells #[.int .i64 h, .int .i64 0, .int .i64 0, .int .i64 0, .int .i64 0, .int .i64 0, .int .i64 0, .int .i64 0, .int .i64 0, .int .i64 0, .int .i64 0, .int .i64 0, .int .i64 0, .int .i64 0, .int .i64 0, .int .i64 0, .int .i64 0] 84)) = w4 at *
        generalize wr.heap.size = fb at *
        have HYL := Aside0.mk hylen
        have hy16 : y.length ≤ 16 := by omega
        clear hylen
        go_wp2
        go_loopg [41] y.length (fun gg3 v41 wi => ∃ e : Nat, e ≤ y.length ∧ y.length - e ≤ gg3 ∧ v41 = .int .i64 e ∧ Aside0 (LS w wi w.heap.size cb MB (.slice (some adg) g.length cg) (.slice (some adc) g.length cc) (.slice (some ⟨nb, 0, none⟩) g.length cn) Sc Sn (clsTo g j).1 ((facesTo (clsTo g j).1 g q).2 ++ List.replicate (g.length - q) 0) (facesTo (clsTo g j).1 g q).1) ∧
          Aside0 (wi.heap[fb]? = some (.cells (cellsOfL (faceTo (clsTo g j).1 h y e)) 84 (0, 0))))
        case atStart => exact ⟨0, by omega, by omega, rfl, HL4, HF4⟩
        case round =>
          clear HL4 HF4
          obtain ⟨e, hey, hg3, rfl, HL4, HF4⟩ := hrel
          by_cases hle : e < y.length
          · have hlez : (e : Int) < (y.length : Int) := by omega
            obtain ⟨adr, e0, hxe⟩ := Kd.at_int (Kd.C_below HRR.out (HL4.out).hb) (e : Int) (by omega) hlez
            cases e0
            rw [Int.toNat_natCast] at hxe
            have hfl := faceTo_len (c := (clsTo g j).1) (h := h) hey hy16
            have hcell : wr.cell? ⟨fb, e + 1, none⟩ = some (.int .i64 ((faceTo (clsTo g j).1 h y e)[e + 1]'(by omega))) := (blk_cell HF4.out (e + 1)).trans (cells_at (by omega))
            have hfz : wr.frozen? ⟨fb, e + 1, none⟩ = false := blk_frozen HF4.out (e + 1)
            have he17 : (e : Int) + 1 < 17 := by omega
            go_upto_region 13 with (fail)
            have HF5 := Aside0.mk (show (wr.setCell ⟨fb, e + 1, none⟩ (.int .i64 (-1))).heap[fb]? = some (.cells (cellsOfL (faceW (clsTo g j).1 h y e (-1))) 84 (0, 0)) from by
              rw [← faceTo_set hle hy16, ← cells_set]
              exact blk_set HF4.out (e + 1) (.int .i64 (-1)))
            have HL5 := Aside0.mk ((HL4.out).far HF4.out HFB.out (grown_setCell wr ⟨fb, e + 1, none⟩ (.int .i64 (-1))))
            have HYE := Aside0.mk (HYR.out _ (rd_mem hle))
            have HFS := Aside0.mk (faceTo_succ (c := (clsTo g j).1) (h := h) hle)
            clear HF4 HL4 hcell hfz hfl hxe
            generalize (wr.setCell ⟨fb, e + 1, none⟩ (.int .i64 (-1))) = w5 at *
            generalize rd y (e : Int) = r at *
            by_cases hneg : r < 0
            · have hge : decide (r ≥ 0) = false := by simpa using hneg
              have HFV := Aside0.mk (show faceV (clsTo g j).1 r = -1 from if_pos hneg)
              clear hneg
              go_wp2
              go_roundg (y.length - (e + 1))
              case measure => omega
              case rel =>
                refine ⟨e + 1, by omega, by omega, by go_num, HL5, ?_⟩
                rw [HFS.out, HFV.out]
                exact HF5
            · have hge : decide (r ≥ 0) = true := by simpa using hneg
              have HFV := Aside0.mk (show faceV (clsTo g j).1 r = rd (clsTo g j).1 r from if_neg hneg)
              obtain ⟨hr0, hr1⟩ : 0 ≤ r ∧ r < (g.length : Int) := by have := HYE.out; omega
              clear hneg
              obtain ⟨adq, e0, hxq⟩ := Kd.at_int (Kd.R_reads' (HL5.out).hC).2.2 r hr0 (by have := HCL.out; omega)
              cases e0
              have hwl : e + 1 < (faceW (clsTo g j).1 h y e (-1)).length := by
                rw [← faceTo_set hle hy16, List.length_set, faceTo_len hey hy16]; omega
              have hcell : w5.cell? ⟨fb, e + 1, none⟩ = some (.int .i64 ((faceW (clsTo g j).1 h y e (-1))[e + 1]'hwl)) := (blk_cell HF5.out (e + 1)).trans (cells_at hwl)
              have hfz : w5.frozen? ⟨fb, e + 1, none⟩ = false := blk_frozen HF5.out (e + 1)
              have hz1 : w5.cell? ⟨cb, 0, none⟩ = some (.slice (some adc) g.length cc) := (blk_cell (HL5.out).hc 0).trans rfl
              have HF6 := Aside0.mk (show (w5.setCell ⟨fb, e + 1, none⟩ (.int .i64 (rd (clsTo g j).1 r))).heap[fb]? = some (.cells (cellsOfL (faceW (clsTo g j).1 h y e (rd (clsTo g j).1 r))) 84 (0, 0)) from by
                rw [← faceW_set hle (-1), ← cells_set]
                exact blk_set HF5.out (e + 1) (.int .i64 (rd (clsTo g j).1 r)))
              have HL6 := Aside0.mk ((HL5.out).far HF5.out HFB.out (grown_setCell w5 ⟨fb, e + 1, none⟩ (.int .i64 (rd (clsTo g j).1 r))))
              go_wp2
              go_roundg (y.length - (e + 1))
              case measure => omega
              case rel =>
                refine ⟨e + 1, by omega, by omega, by go_num, HL6, ?_⟩
                rw [HFS.out, HFV.out]
                exact HF6
          · have hlez : ¬ (e : Int) < (y.length : Int) := by omega
            obtain rfl : e = y.length := by omega
            have HFD := Aside0.mk (face_dom (e := y.length) (clsTo_range g hg0 j) (by omega) (HCR.out) (fun r hr => by have := HYR.out r hr; rw [HCL.out]; exact this.2) (Nat.le_refl _) hy16)
            have hfsz : (cellsOfL (faceTo (clsTo g j).1 h y y.length)).size = 17 := by
              rw [cellsOfL, List.size_toArray, List.length_map]; exact (HFD.out).1
            have HFS := Aside0.mk hfsz
            have HFT := Aside0.mk (show facesTo (clsTo g j).1 g (q + 1) = (ins (facesTo (clsTo g j).1 g q).1 (face (clsTo g j).1 g q), (facesTo (clsTo g j).1 g q).2 ++ [(place (face (clsTo g j).1 g q) (facesTo (clsTo g j).1 g q).1 : Int)]) from rfl)
            have HNL := Aside0.mk (facesTo_len (clsTo g j).1 g q)
            rw [HFC.out] at HFT
            clear hfsz HFC
            generalize faceTo (clsTo g j).1 h y y.length = f at *
            have HLK := Aside0.mk (MapIs.look (HL4.out).hM keyFace Try.underlying83 (zero3 wr) HFD.out true)
            rw [mget_place] at HLK
            by_cases hmem : f ∈ (facesTo (clsTo g j).1 g q).1
            · have hl : (Instr.lookup 83 (.map (some MB)) (.agg (cellsOfL f)) true).run Try.prog wr = .ok (.tuple #[.int .i64 ((place f (facesTo (clsTo g j).1 g q).1 : Nat) : Int), .bool true]) wr := by
                have h1 := HLK.out
                rw [if_pos hmem, show encA .i64 f = .agg (cellsOfL f) from rfl] at h1
                simp only [if_true, encN] at h1
                exact h1
              rw [ins, if_pos hmem] at HFT
              clear HLK hmem
              generalize place f (facesTo (clsTo g j).1 g q).1 = kk at *
              obtain ⟨hc1, hf1⟩ := Kd.R_celln 0 (HL4.out).hN (q : Int) (by omega) (by omega)
              rw [Int.toNat_natCast] at hc1 hf1
              go_wp2_with ((with_reducible refine gate_dst (N := 61) rfl ?_); refine wpList_load_row rfl 84 (.tmp 11) rfl fb rfl 84 (cellsOfL f) (0, 0) (.array 17 3) HF4.out Try.underlying84 rfl (by rw [HFS.out]; kernel_rfl) ?_)
              have HPUT := Kd.R_putg (HL4.out).hN (q : Int) (kk : Int)
              rw [Int.toNat_natCast, set_next HNL.out hlt] at HPUT
              go_roundg (g.length - (q + 1))
              case measure => omega
              case rel =>
                refine ⟨q + 1, fun k => Sc k ∧ k < wr.heap.size, Sn, by omega, by omega, by go_num, ⟨?_⟩⟩
                rw [HFT.out]
                exact LS.step (HL4.out) HPUT.1 HPUT.2
            · have hl : (Instr.lookup 83 (.map (some MB)) (.agg (cellsOfL f)) true).run Try.prog wr = .ok (.tuple #[.int .i64 0, .bool false]) wr := by
                have h1 := HLK.out
                rw [if_neg hmem, show encA .i64 f = .agg (cellsOfL f) from rfl] at h1
                simp only [if_true] at h1
                exact h1
              have hlenm := MapIs.len (HL4.out).hM Try.underlying83 3
              rw [List.length_zipIdx] at hlenm
              obtain ⟨w5, hput, HM5, hg5⟩ := MapIs.put (HL4.out).hM keyFace Try.underlying83 HFD.out (facesTo (clsTo g j).1 g q).1.length
              rw [mput_zip hmem] at HM5
              have hput' : (Instr.mapUpdate 83 (.map (some MB)) (.agg (cellsOfL f)) (.int .i64 ((facesTo (clsTo g j).1 g q).1.length : Int))).run Try.prog wr = .ok () w5 := hput
              have HL5 := Aside0.mk ((HL4.out).map HMB.out HM5 hg5)
              rw [ins, if_neg hmem, place_new hmem] at HFT
              clear HLK hmem hput HM5 hg5
              generalize (facesTo (clsTo g j).1 g q).1 = F at *
              obtain ⟨hc1, hf1⟩ := Kd.R_celln 0 (HL5.out).hN (q : Int) (by omega) (by omega)
              rw [Int.toNat_natCast] at hc1 hf1
              go_wp2_with (first
                | ((with_reducible refine gate_dst (N := 61) rfl ?_); refine wpList_load_row rfl 84 (.tmp 11) rfl fb rfl 84 (cellsOfL f) (0, 0) (.array 17 3) HF4.out Try.underlying84 rfl (by rw [HFS.out]; kernel_rfl) ?_)
                | ((with_reducible refine gate_dst (N := 70) rfl ?_); refine wpList_load_row rfl 84 (.tmp 11) rfl fb rfl 84 (cellsOfL f) (0, 0) (.array 17 3) HF4.out Try.underlying84 rfl (by rw [HFS.out]; kernel_rfl) ?_))
              have HPUT := Kd.R_putg (HL5.out).hN (q : Int) (F.length : Int)
              rw [Int.toNat_natCast, set_next HNL.out hlt] at HPUT
              go_roundg (g.length - (q + 1))
              case measure => omega
              case rel =>
                refine ⟨q + 1, fun k => (Sc k ∧ k < wr.heap.size) ∧ k < w5.heap.size, fun k => Sn k ∧ k < wr.heap.size, by omega, by omega, by go_num, ⟨?_⟩⟩
                rw [HFT.out]
                exact LS.step (HL5.out) HPUT.1 HPUT.2
      · have hltz : ¬ (q : Int) < (g.length : Int) := by omega
        obtain rfl : q = g.length := by omega
        rw [Nat.sub_self, List.replicate_zero, List.append_nil] at HL
        have hcc : wr.cell? ⟨cb, 0, none⟩ = some (.slice Ac g.length cc) := (blk_cell (HL.out).hc 0).trans rfl
        have hcf : wr.frozen? ⟨cb, 0, none⟩ = false := blk_frozen (HL.out).hc 0
        go_upto_region 23 with (fail)
        have hg6 := grown_setCell wr ⟨cb, 0, none⟩ (.slice (some ⟨nb, 0, none⟩) g.length cn)
        have HB6 := Aside0.mk (pw_below_grown (HL.out).hb _ ((HL.out).hb).size hg6 (fun k hk => by cases hk; exact HCB.out))
        have HX6 := Aside0.mk (blk_grown (HL.out).hg hg6 (fun e => by injection e with e; exact blk_ne (HL.out).hg (HL.out).hc (by decide) e))
        have HY6 := Aside0.mk (show (wr.setCell ⟨cb, 0, none⟩ (.slice (some ⟨nb, 0, none⟩) g.length cn)).heap[cb]? = some (.cells #[.slice (some ⟨nb, 0, none⟩) g.length cn] 25 (0, 0)) from blk_set (HL.out).hc 0 (.slice (some ⟨nb, 0, none⟩) g.length cn))
        have HC6 := Aside0.mk (R_offrow (HL.out).hN (HL.out).hc (by simp [Kd.int, Kd.scalar]) hg6)
        have HM6 := Aside0.mk ((HL.out).hM.grown hg6 (fun e => by injection e with e; exact (HL.out).hM.ne_row (HL.out).hc e.symm))
        have HCLS := Aside0.mk (show clsTo g (j + 1) = ((facesTo (clsTo g j).1 g g.length).2, (facesTo (clsTo g j).1 g g.length).1.length) from rfl)
        clear HL hcc hcf hg6
        generalize (wr.setCell ⟨cb, 0, none⟩ (.slice (some ⟨nb, 0, none⟩) g.length cn)) = w6 at *
        have hlenm := MapIs.len HM6.out Try.underlying83 3
        rw [List.length_zipIdx] at hlenm
        have hcnt : (clsTo g (j + 1)).2 = (facesTo (clsTo g j).1 g g.length).1.length := by rw [HCLS.out]
        have HCN := Aside0.mk hcnt
        have HC7 := Aside0.mk (show Kd.R (Kd.int .i64) 3 w6 w.heap.size Sn (.slice (some ⟨nb, 0, none⟩) g.length cn) (clsTo g (j + 1)).1 from by rw [HCLS.out]; exact HC6.out)
        clear hcnt HC6
        rw [← HCN.out] at hlenm
        by_cases hstop : (clsTo g (j + 1)).2 = (clsTo g j).2
        · have hst : (((clsTo g (j + 1)).2 : Int) == ((clsTo g j).2 : Int)) = true := beq_iff_eq.2 (by rw [hstop])
          have hst2 : ((clsTo g (j + 1)).2 == (clsTo g j).2) = true := beq_iff_eq.2 hstop
          obtain rfl : j = k := by
            rcases Nat.lt_or_ge j k with h | h
            · exact absurd hstop (HMIN.out j h)
            · omega
          clear hstop
          have hz0 : w6.cell? ⟨w.heap.size, 0, none⟩ = some (.slice A g.length cg) := (blk_cell HX6.out 0).trans rfl
          go_upto_region 26 with (fail)
          clear hz0
          have HB8 := Aside0.mk (below_alloc (below_alloc HB6.out (.map #[] 0)) (.cells #[.map (some w6.heap.size)] 86))
          have HX8 := Aside0.mk (blk_alloc (blk_alloc HX6.out (.map #[] 0)) (.cells #[.map (some w6.heap.size)] 86))
          have HY8 := Aside0.mk (blk_alloc (blk_alloc HY6.out (.map #[] 0)) (.cells #[.map (some w6.heap.size)] 86))
          have HC8 := Aside0.mk (Kd.R_alloc (Kd.R_alloc HC7.out (.map #[] 0)) (.cells #[.map (some w6.heap.size)] 86))
          have HM8 := Aside0.mk (MapIs.below (mapIs_new (ν := Nat) w6 (Value.int .i64) encN wf64) (below_alloc (Below.refl _ _) (.cells #[.map (some w6.heap.size)] 86)))
          have HF8 := Aside0.mk (blk_at2 w6 (.map #[] 0) (.cells #[.map (some w6.heap.size)] 86))
          have HMB2 := Aside0.mk (HB6.out).size
          have HKR := Aside0.mk (clsTo_range g hg0 (j + 1))
          have HKL := Aside0.mk (clsTo_len g (j + 1))
          clear HB6 HX6 HY6 HC7 HM6
          generalize ((w6.alloc (.map #[] 0)).alloc (.cells #[.map (some w6.heap.size)] 86)) = w8 at *
          generalize w6.heap.size = MB2 at *
          generalize (clsTo g (j + 1)).1 = K at *
          have hz0 : w8.cell? ⟨w.heap.size, 0, none⟩ = some (.slice A g.length cg) := (blk_cell HX8.out 0).trans rfl
          go_wp2
          clear hz0
          go_loopg [17] g.length (fun gg v17 wi => ∃ (d : Nat) (t : Int) (S : Nat → Prop), d ≤ g.length ∧ g.length - d ≤ gg ∧ v17 = .int .i64 t ∧ -1 ≤ t ∧ t < (g.length : Int) ∧ Aside0 (t = (g.length : Int) - 1 - d) ∧ Aside0 (Below w.heap.size w wi) ∧ Aside0 (wi.heap[w.heap.size]? = some (.cells #[.slice A g.length cg] 67 (0, 0))) ∧
            Aside0 (wi.heap[cb]? = some (.cells #[.slice (some ⟨nb, 0, none⟩) g.length cn] 25 (0, 0))) ∧ Aside0 (wi.heap[MB2 + 1]? = some (.cells #[.map (some MB2)] 86 (0, 0))) ∧ Aside0 (Kd.R (Kd.int .i64) 3 wi w.heap.size S (.slice (some ⟨nb, 0, none⟩) g.length cn) K) ∧ Aside0 (MapIs wi MB2 (Value.int .i64) encN wf64 (firstTo K d)))
          case atStart => exact ⟨0, (g.length : Int) - 1, Sn, by omega, by omega, rfl, by omega, by omega, ⟨by omega⟩, HB8, HX8, HY8, HF8, HC8, HM8⟩
          case round =>
            clear HB8 HX8 HY8 HF8 HC8 HM8
            obtain ⟨d, t, S, hdg, hgd, rfl, ht0, ht1, HT, HB, HX, HY, HF, HC, HM⟩ := hrel
            by_cases htn : 0 ≤ t
            · have htd : decide (t ≥ 0) = true := by simpa using htn
              obtain ⟨p, rfl⟩ : ∃ p : Nat, t = (p : Int) := ⟨t.toNat, by omega⟩
              have hpd : p = g.length - 1 - d := by have := HT.out; omega
              have hdlt : d < g.length := by have := HT.out; omega
              have HPD := Aside0.mk hpd
              clear hpd
              obtain ⟨adp, e0, hxp⟩ := Kd.at_int (Kd.R_reads' HC.out).2.2 (p : Int) (by omega) (by have := HKL.out; omega)
              cases e0
              rw [Int.toNat_natCast, add_plain] at hxp
              have hpk := HKR.out (rd K (p : Int)) (rd_mem (by have := HKL.out; omega))
              obtain ⟨w9, hput, HM9, hg9⟩ := MapIs.put (w := wr.drew) ((HM.out).kept rfl) keyInt Try.underlying86 (x := rd K (p : Int)) (wf_small hpk.1 (by omega)) p
              have hput' : (Instr.mapUpdate 86 (.map (some MB2)) (.int .i64 (rd K (p : Int))) (.int .i64 (p : Int))).run Try.prog wr.drew = .ok () w9 := hput
              clear hput
              have hz1 : wr.cell? ⟨cb, 0, none⟩ = some (.slice (some ⟨nb, 0, none⟩) g.length cn) := (blk_cell HY.out 0).trans rfl
              have hz2 : wr.cell? ⟨MB2 + 1, 0, none⟩ = some (.map (some MB2)) := (blk_cell HF.out 0).trans rfl
              go_wp2
              go_region
              have hmb : ∀ {α : Type} {d : Kd α} {e base : Nat} {S : Nat → Prop} {v : Value} {xs : List α}, d.R e wr base S v xs → d.R e w9 base (fun k => S k ∧ k < wr.heap.size) v xs := fun hh =>
                Kd.R_mono (Kd.R_step (Kd.R_bound hh) (fun k hk hlt => hg9.block k hlt (fun he => by
                  cases he
                  obtain ⟨_, _, _, q, _, cells, hc⟩ := hk
                  exact (HM.out).ne_row hc rfl))) (fun k hk => ⟨hk.1, hk.2.2.1⟩)
              have HB9 := Aside0.mk (pw_below_grown (below_drew HB.out) _ (HB.out).size hg9 (fun k hk => by cases hk; exact HMB2.out))
              have HX9 := Aside0.mk (blk_grown (w := wr.drew) HX.out hg9 (fun e => by injection e with e; exact (HM.out).ne_row HX.out e))
              have HY9 := Aside0.mk (blk_grown (w := wr.drew) HY.out hg9 (fun e => by injection e with e; exact (HM.out).ne_row HY.out e))
              have HF9 := Aside0.mk (blk_grown (w := wr.drew) HF.out hg9 (fun e => by injection e with e; exact (HM.out).ne_row HF.out e))
              have HC9 := Aside0.mk (hmb HC.out)
              have HM9' := Aside0.mk HM9
              have HFT := Aside0.mk (show firstTo K (d + 1) = mput (rd K (p : Int)) p (firstTo K d) from by rw [HPD.out, ← HKL.out]; rfl)
              clear HM9 hmb hg9 hput' HB HX HY HF HC HM hz1 hz2 hxp
              go_wp2
              go_roundg (g.length - (d + 1))
              case measure => omega
              case rel =>
                refine ⟨d + 1, (p : Int) - 1, _, by omega, by omega, rfl, by omega, by omega, ⟨by have := HT.out; omega⟩, HB9, HX9, HY9, HF9, HC9, ?_⟩
                rw [HFT.out]
                exact HM9'
            · have htd : decide (t ≥ 0) = false := by simpa using htn
              have hdd : d = g.length := by have := HT.out; omega
              have HDD := Aside0.mk hdd
              clear hdd
              rw [HDD.out, ← HKL.out] at HM
              have hmf := run_mkfun
              have hst0 := HKR.out (rd K ((0 : Nat) : Int)) (rd_mem (by have := HKL.out; omega))
              obtain ⟨ad0, e0, hx0⟩ := Kd.at_int (Kd.R_reads' HC.out).2.2 0 (by omega) (by have := HKL.out; omega)
              cases e0
              rw [show (0 : Int).toNat = 0 from rfl, add_plain] at hx0
              have hz1 : wr.cell? ⟨cb, 0, none⟩ = some (.slice (some ⟨nb, 0, none⟩) g.length cn) := (blk_cell HY.out 0).trans rfl
              have HKC := Aside0.mk (Kd.R_reads' HC.out)
              have hwfK : ∀ x ∈ K, wf64 x := fun x hx => wf_small (HKR.out x hx).1 (by have := (HKR.out x hx).2; omega)
              have HEX := Aside0.mk (explored_calls n (rd K 0) 64 #[.pointer (some ⟨w.heap.size, 0, none⟩), .pointer (some ⟨MB2 + 1, 0, none⟩), .pointer (some ⟨cb, 0, none⟩)] (fun x => x ∈ K) (stepL g K) g.length wr hn (by omega)
                (bfs_size' (D := fun x => x ∈ K) (fun x hx => HKR.out x hx) (fun x e hx he h => stepL_dom HOK.out HKL.out x e hx he h) (rd_mem (k := 0) (by have := HKL.out; omega)) _)
                (fun W x e hW hx he => least1_calls n g K A (some ⟨nb, 0, none⟩) cg cn w.heap.size (MB2 + 1) cb MB2 x e W (blk_below HX.out hW) (blk_below HF.out hW) (by rw [HKL.out]; exact blk_below HY.out hW) (MapIs.below HM.out hW) (Kd.C_below HR.out (below_then HB.out (HB.out).size hW)) (Kd.C_below (HKC.out).2.2 hW) HOK.out HKL.out hwfK hx he)
                (rd_mem (k := 0) (by have := HKL.out; omega)) (fun x e hx he h => stepL_dom HOK.out HKL.out x e hx he h) hwfK (fun _ _ => rfl))
              have HB7 := Aside0.mk (HB.out).size
              clear HX HY HF HC HM hwfK hst0
              go_wp2_with fail
              refine HEX.out.mono ?_
              rintro E w2 ⟨ov, qv, So, Sq, rfl, _, ho, _, hb⟩
              have HO := Aside0.mk ho
              have HB2 := Aside0.mk (below_then HB.out HB7.out hb)
              clear ho hb HEX
              go_wp2
              go_ret
              exact ⟨_, So, rfl, Kd.R_lower HO.out HB7.out, HB2.out⟩
        · have hst : (((clsTo g (j + 1)).2 : Int) == ((clsTo g j).2 : Int)) = false := beq_eq_false_iff_ne.2 (by omega)
          have hst2 : ((clsTo g (j + 1)).2 == (clsTo g j).2) = false := beq_eq_false_iff_ne.2 hstop
          have hjk2 : j + 1 ≤ k := by
            rcases Nat.lt_or_ge j k with h | h
            · omega
            · obtain rfl : j = k := by omega
              exact absurd HK.out hstop
          clear hstop
          go_wp2
          go_roundg (k - (j + 1))
          case measure => omega
          case rel => exact ⟨j + 1, .slice (some ⟨nb, 0, none⟩) g.length cn, Sn, hjk2, by omega, rfl, HB6, HX6, HY6, HC7⟩
end Go.Proofs.Ytmphigeefppfpaa.H
