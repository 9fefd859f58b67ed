/- auto.mask: the states from which a tree is accepted safely. -/
import Derived.Test.YtmphigeefppfpaaDoorBg
namespace Go.Proofs.YtmphigeefppfpaaDoor.H
open Go.RowKit Go.Proofs.YtmphigeefppfpaaDoorW.PrintWords Go.Proofs.YtmphigeefppfpaaDoorW.PrintLast Go.Proofs.YtmphigeefppfpaaDoorW.PrintMore
open Go.Proofs.YtmphigeefppfpaaDoor.PSpecPaths (S28 k28 rd_T28 z28 at_T28)
set_option linter.unusedVariables false

mutual
def accT (M : Mv) : S28 → Nat → Bool
  | ⟨s, l⟩, q => if s = -1 then true else (altsAt M q s.toNat).any fun al => al.all fun x => (accL M l).getD x.f0.toNat (fun _ => false) x.f1.toNat
def accL (M : Mv) : List S28 → List (Nat → Bool)
  | [] => []
  | t :: r => accT M t :: accL M r
end
theorem accL_map (M : Mv) (l : List S28) : accL M l = l.map (accT M) := by
  induction l with
  | nil => rw [accL]; rfl
  | cons a r ih => rw [accL, ih]; rfl
/-- A mask that says of each state whether it is one of the first n, and p. -/
def IsMask (n : Nat) (p : Nat → Bool) (o : Nat) : Prop := o < 64 ∧ ∀ i, i < 6 → o.testBit i = (decide (i < n) && p i)
/-- The moves suit the ranks. -/
def MvOk (rk : List Int) (M : Mv) : Prop := M.length ≤ 6 ∧ (∀ q, q < M.length → (M.getD q []).length = rk.length) ∧ ∀ q f : Nat, q < M.length → f < rk.length → ∀ l ∈ altsAt M q f, ∀ x ∈ l, needOk M.length (rd rk (f : Int)).toNat x
theorem overL_mem {rk : List Int} {l : List S28} {t : S28} (h : overL rk l = true) (ht : t ∈ l) : overB rk t = true := by
  induction l with
  | nil => cases ht
  | cons a r ih =>
    rw [overL, Bool.and_eq_true] at h
    rcases List.mem_cons.1 ht with rfl | ht
    · exact h.1
    · exact ih h.2 ht
theorem any_congr {α : Type} {p q : α → Bool} {l : List α} (h : ∀ x ∈ l, p x = q x) : l.any p = l.any q := by
  induction l with
  | nil => rfl
  | cons a r ih => rw [List.any_cons, List.any_cons, h a List.mem_cons_self, ih fun x hx => h x (List.mem_cons_of_mem _ hx)]
theorem all_congr {α : Type} {p q : α → Bool} {l : List α} (h : ∀ x ∈ l, p x = q x) : l.all p = l.all q := by
  induction l with
  | nil => rfl
  | cons a r ih => rw [List.all_cons, List.all_cons, h a List.mem_cons_self, ih fun x hx => h x (List.mem_cons_of_mem _ hx)]
def MaskEnd (M : Mv) (t : S28) (w : World) (E : Ending) (w' : World) : Prop := ∃ o : Nat, E = .returned (.int .i64 (o : Int)) ∧ IsMask M.length (accT M t) o ∧ Below w.heap.size w w'
theorem full_all : ((List.range 7).all fun (n : Nat) => (wrap64 (wrap64 (2 ^ min n 64) - 1) == ((2 ^ n - 1 : Nat) : Int)) && decide (2 ^ n - 1 < 64) && ((List.range 6).all fun i => (2 ^ n - 1).testBit i == decide (i < n))) = true := by kernel_rfl
theorem full_bit {n : Nat} (hn : n ≤ 6) : wrap64 (wrap64 (2 ^ min n 64) - 1) = ((2 ^ n - 1 : Nat) : Int) ∧ IsMask n (fun _ => true) (2 ^ n - 1) := by
  have h := List.all_eq_true.1 full_all n (List.mem_range.2 (by omega))
  simp only [Bool.and_eq_true, beq_iff_eq, decide_eq_true_eq] at h
  exact ⟨h.1.1, h.1.2, fun i hi => by have := List.all_eq_true.1 h.2 i (List.mem_range.2 hi); rw [Bool.and_true]; exact beq_iff_eq.1 this⟩
set_option maxHeartbeats 4000000 in
set_option maxRecDepth 100000 in
theorem mask_calls (rk : List Int) (M : Mv) (hMv : MvOk rk M) (st : Int) (A1 : Option Addr) (n1 c1 : Nat) (A2 : Option Addr) (c2 : Nat) (w0 : World) (hM : Kd.C kA3 w0 A2 M.length M) (N : Nat) :
    ∀ t : S28, nodes t ≤ N → N ≤ 20000 → overB rk t = true → ∀ (A : Option Addr) (c : Nat) (w : World), Below w0.heap.size w0 w → Kd.C k28 w0 A t.f1.length t.f1 → t.f1.length ≤ c →
    Calls Tryd.prog 31 #[.agg #[.slice A1 n1 c1, .int .i64 st, .slice A2 M.length c2], .int .i64 0, .agg #[.int .i64 t.f0, .slice A t.f1.length c]] w (MaskEnd M t w) := by
  induction N with
  | zero => intro t h; have := nodes_pos t; omega
  | succ N ih =>
    intro t hN hN2 hov A c w hB0 hC hc
    obtain ⟨s, l⟩ := t
    rw [nodes] at hN
    have hll := lens_le (l := l)
    rw [overB, Bool.or_eq_true, Bool.and_eq_true, Bool.and_eq_true, Bool.and_eq_true, Bool.and_eq_true, decide_eq_true_eq, decide_eq_true_eq, decide_eq_true_eq, decide_eq_true_eq, decide_eq_true_eq] at hov
    have HOV := Aside0.mk hov
    have IH := Aside0.mk ih
    have HMv := Aside0.mk hMv
    have HM := Aside0.mk hM
    have HC := Aside0.mk hC
    have HB0 := Aside0.mk hB0
    have HD := Aside0.mk (show nodesL l + 1 ≤ N + 1 ∧ N + 1 ≤ 20000 ∧ l.length ≤ nodesL l from ⟨hN, hN2, hll⟩)
    have ha := below_alloc (below_alloc (Below.refl w.heap.size w) (.cells #[.slice A1 n1 c1, .int .i64 st, .slice A2 M.length c2] 31)) (.cells #[.int .i64 s, .slice A l.length c] 28)
    have hb1 := blk_alloc (blk_new w (.cells #[.slice A1 n1 c1, .int .i64 st, .slice A2 M.length c2] 31)) (.cells #[.int .i64 s, .slice A l.length c] 28)
    have hb2 := blk_at2 w (.cells #[.slice A1 n1 c1, .int .i64 st, .slice A2 M.length c2] 31) (.cells #[.int .i64 s, .slice A l.length c] 28)
    have HB := Aside0.mk ha
    have HB1 := Aside0.mk hb1
    have HB2 := Aside0.mk hb2
    clear ih hMv hM hC hB0 hN hN2 hll hov ha hb1 hb2
    go_enter Tryd.func31, Tryd.ntmps31
    go_upto_region 1 with (fail)
    generalize ((w.alloc (.cells #[.slice A1 n1 c1, .int .i64 st, .slice A2 M.length c2] 31)).alloc (.cells #[.int .i64 s, .slice A l.length c] 28)) = W1 at *
    have hk0 : W1.cell? ⟨w.heap.size + 1, 0, none⟩ = some (.int .i64 s) := (blk_cell HB2.out 0).trans rfl
    have hk1 : W1.cell? ⟨w.heap.size + 1, 1, none⟩ = some (.slice A l.length c) := (blk_cell HB2.out 1).trans rfl
    have hk2 : W1.cell? ⟨w.heap.size, 2, none⟩ = some (.slice A2 M.length c2) := (blk_cell HB1.out 2).trans rfl
    by_cases hs : s = -1
    · subst hs
      go_wp2
      go_ret
      obtain ⟨e1, e2⟩ := full_bit (HMv.out).1
      exact ⟨2 ^ M.length - 1, by rw [e1]; rfl, by rw [show accT M ⟨-1, l⟩ = fun _ => true from by funext q; rw [accT, if_pos rfl]]; exact e2, HB.out⟩
    · have HO := Aside0.mk ((HOV.out).resolve_left (fun hh => hs hh.1))
      obtain ⟨f, rfl⟩ : ∃ f : Nat, s = (f : Int) := ⟨s.toNat, by have := (HO.out).1.1.1; omega⟩
      have hsf : ((f : Int) == -1) = false := beq_eq_false_iff_ne.2 hs
      have HS := Aside0.mk hs
      clear HOV hs
      go_wp2
      clear hk0 hk1 hk2
      go_loopg [7, 23] l.length (fun gg v7 v23 wi => ∃ (ks : List Nat) (So : Nat → Prop), ks.length ≤ l.length ∧ l.length - ks.length ≤ gg ∧ v23 = .int .i64 ks.length ∧ Aside0 (Kd.R (Kd.int .i64) 3 wi w.heap.size So v7 (ks.map fun (m : Nat) => (m : Int))) ∧ Aside0 (∀ i, i < ks.length → IsMask M.length (accT M (l.getD i z28)) (ks.getD i 0)) ∧ Aside0 (Below w.heap.size w wi) ∧
        Aside0 (wi.heap[w.heap.size]? = some (.cells #[.slice A1 n1 c1, .int .i64 st, .slice A2 M.length c2] 31 (0, 0))) ∧ Aside0 (wi.heap[w.heap.size + 1]? = some (.cells #[.int .i64 (f : Int), .slice A l.length c] 28 (0, 0))))
      case atStart => exact ⟨[], fun _ => False, by simp, by simp, rfl, ⟨Kd.R_nil _ _ _ _ _⟩, ⟨fun i hi => absurd hi (Nat.not_lt_zero _)⟩, HB, HB1, HB2⟩
      case round =>
        clear HB HB1 HB2
        obtain ⟨ks, So, hj, hgg, rfl, HR, HA, HB, HB1, HB2⟩ := hrel
        obtain ⟨Ak, ck, e⟩ := Kd.R_slice HR.out
        rw [List.length_map] at e
        subst e
        by_cases hlt : ks.length < l.length
        · have hltz : (ks.length : Int) < (l.length : Int) := by omega
          have HBr := Aside0.mk (below_then HB0.out (HB0.out).size HB.out)
          obtain ⟨ad, A3, c3, e, hx0, hx1, hl1, hC1⟩ := at_T28 HC.out (ks.length : Int) (by omega) hltz
          subst e
          rw [rdT_at hlt] at hx0 hx1 hl1 hC1
          rw [Int.toNat_natCast] at hx0 hx1
          replace hx0 := pw_cell_below HBr.out hx0
          replace hx1 := pw_cell_below HBr.out hx1
          have HJ := Aside0.mk (show nodes l[ks.length] ≤ nodesL l ∧ overB rk l[ks.length] = true ∧ l.getD ks.length z28 = l[ks.length] from ⟨nodes_mem (List.getElem_mem hlt), overL_mem (HO.out).2 (List.getElem_mem hlt), by rw [List.getD_eq_getElem?_getD, List.getElem?_eq_getElem hlt]; rfl⟩)
          generalize l[ks.length] = u at *
          have HC1 := Aside0.mk hC1
          have HL1 := Aside0.mk hl1
          clear hC1 hl1
          go_upto_region 9 with (fail)
          have ha := below_alloc (Below.refl wr.heap.size wr) (.cells #[.int .i64 u.f0, .slice A3 u.f1.length c3] 28)
          have HBr5 := Aside0.mk (below_then HBr.out (HBr.out).size ha)
          have HB5 := Aside0.mk (below_then HB.out (HB.out).size ha)
          have HB51 := Aside0.mk (blk_below HB1.out ha)
          have HB52 := Aside0.mk (blk_below HB2.out ha)
          have HR5 := Aside0.mk (Kd.R_below HR.out ha)
          have HX5 := Aside0.mk (blk_new wr (.cells #[.int .i64 u.f0, .slice A3 u.f1.length c3] 28))
          clear ha HB HB1 HB2 HBr HR hx0 hx1
          generalize (wr.alloc (.cells #[.int .i64 u.f0, .slice A3 u.f1.length c3] 28)) = w5 at *
          generalize wr.heap.size = b9 at *
          have hk0 : w5.cell? ⟨w.heap.size, 0, none⟩ = some (.slice A1 n1 c1) := (blk_cell HB51.out 0).trans rfl
          have hk1 : w5.cell? ⟨w.heap.size, 1, none⟩ = some (.int .i64 st) := (blk_cell HB51.out 1).trans rfl
          have hk2 : w5.cell? ⟨w.heap.size, 2, none⟩ = some (.slice A2 M.length c2) := (blk_cell HB51.out 2).trans rfl
          have hb0 : w5.cell? ⟨b9, 0, none⟩ = some (.int .i64 u.f0) := (blk_cell HX5.out 0).trans rfl
          have hb1 : w5.cell? ⟨b9, 1, none⟩ = some (.slice A3 u.f1.length c3) := (blk_cell HX5.out 1).trans rfl
          go_wp2_with fail
          refine (IH.out u (by have := HD.out; have := HJ.out; omega) (by have := HD.out; omega) (HJ.out).2.1 A3 c3 w5 HBr5.out HC1.out HL1.out).mono ?_
          rintro E w6 ⟨o, rfl, hmask, hb⟩
          have HK6 := Aside0.mk hmask
          have HB6 := Aside0.mk (below_then HB5.out (HB5.out).size hb)
          have HB61 := Aside0.mk (blk_below HB51.out hb)
          have HB62 := Aside0.mk (blk_below HB52.out hb)
          have HR6 := Aside0.mk (Kd.R_below HR5.out hb)
          clear hb hmask HB5 HB51 HB52 HR5 HX5 HBr5 hk0 hk1 hk2 hb0 hb1
          go_wp2_with ((with_reducible refine gate_builtin (b := .append) (xs := #[.tmp 27, .tmp 32]) rfl ?_); at_builtin; refine Kd.R_append (Kd.int .i64) (w0 := w) w.heap.size rfl (.tmp 27) (.tmp 32) 25 3 (.int .i64 0) 8 rfl Tryd.underlying25 info3 rfl (by decide) (by omega) (.slice Ak ks.length ck) (ks.map fun (m : Nat) => (m : Int)) (o : Int) [.int .i64 (o : Int)] (fun k => So k ∨ w6.heap.size ≤ k) (fun _ => False) rfl rfl rfl (fun _ hk => hk.elim) (fun k hk => .inr hk) (Kd.R_mono HR6.out (fun _ hk => .inl hk)) HB6.out (HB6.out).size (by rw [List.length_map]; have := HD.out; omega) ?_; intro v7 w7 ho7 hb7 hg7 hat7; have HR7 := Aside0.mk ho7; have HB7 := Aside0.mk hb7; have HB71 := Aside0.mk (blk_grown HB61.out hg7 (Kd.R_ne HR6.out HB61.out (by decide))); have HB72 := Aside0.mk (blk_grown HB62.out hg7 (Kd.R_ne HR6.out HB62.out (by decide))); clear ho7 hb7 hg7 hat7)
          go_roundg (l.length - (ks.length + 1))
          case measure => omega
          case rel =>
            refine ⟨ks ++ [o], _, by rw [List.length_append, List.length_singleton]; omega, by rw [List.length_append, List.length_singleton]; omega, by rw [wrap_succ (by omega) (by have := HD.out; omega), List.length_append]; rfl, ⟨by rw [List.map_append]; exact HR7.out⟩, ⟨fun i hi => ?_⟩, HB7, HB71, HB72⟩
            rw [List.length_append, List.length_singleton] at hi
            by_cases e : i = ks.length
            · subst e
              rw [(HJ.out).2.2, List.getD_eq_getElem?_getD, List.getElem?_append_right (by omega), Nat.sub_self]
              exact HK6.out
            · rw [List.getD_eq_getElem?_getD (l := ks ++ [o]), List.getElem?_append_left (by omega), ← List.getD_eq_getElem?_getD]
              exact HA.out i (by omega)
        · have hltz : ¬ (ks.length : Int) < (l.length : Int) := by omega
          have hje : ks.length = l.length := by omega
          have HBr := Aside0.mk (below_then HB0.out (HB0.out).size HB.out)
          have hr := Kd.R_reads' HR.out
          rw [List.length_map] at hr
          have HSat := Aside0.mk (sat_calls M f ks st A1 n1 c1 A2 c2 Ak ck wr (Kd.C_below HM.out HBr.out) hr.2.2 (HMv.out).1 (fun m hm => by obtain ⟨i, hi, rfl⟩ := List.getElem_of_mem hm; have := ((HA.out) i hi).1; rwa [List.getD_eq_getElem?_getD, List.getElem?_eq_getElem hi] at this)
            (fun q hq => by rw [(HMv.out).2.1 q hq]; have := (HO.out).1.1.2; omega)
            (fun q hq al hal x hx => by
              obtain ⟨k, s', hk, hs', e⟩ := (HMv.out).2.2 q f hq (by have := (HO.out).1.1.2; omega) al hal x hx
              exact ⟨k, s', by have := (HO.out).1.2; omega, by have := (HMv.out).1; omega, e⟩))
          have HEQ := Aside0.mk (show ∀ i, i < M.length → satBit M f ks i = accT M ⟨(f : Int), l⟩ i from fun i hi => by
            rw [accT, if_neg HS.out, Int.toNat_natCast, accL_map]
            unfold satBit
            refine any_congr fun al hal => all_congr fun x hx => ?_
            obtain ⟨k, s', hk, hs', e⟩ := (HMv.out).2.2 i f hi (by have := (HO.out).1.1.2; omega) al hal x hx
            subst e
            have hkl : k < l.length := by have := (HO.out).1.2; omega
            have h6 := ((HA.out) k (by omega)).2 s' (by have := (HMv.out).1; omega)
            unfold meets
            simp only [Int.toNat_natCast]
            rw [h6, decide_eq_true hs', Bool.true_and, List.getD_eq_getElem?_getD, List.getD_eq_getElem?_getD, List.getElem?_eq_getElem hkl, List.getElem?_map, List.getElem?_eq_getElem hkl]
            rfl)
          have hk0 : wr.cell? ⟨w.heap.size, 0, none⟩ = some (.slice A1 n1 c1) := (blk_cell HB1.out 0).trans rfl
          have hk1 : wr.cell? ⟨w.heap.size, 1, none⟩ = some (.int .i64 st) := (blk_cell HB1.out 1).trans rfl
          have hk2 : wr.cell? ⟨w.heap.size, 2, none⟩ = some (.slice A2 M.length c2) := (blk_cell HB1.out 2).trans rfl
          have hk3 : wr.cell? ⟨w.heap.size + 1, 0, none⟩ = some (.int .i64 (f : Int)) := (blk_cell HB2.out 0).trans rfl
          clear hr hje
          go_wp2_with fail
          with_reducible refine (HSat.out).mono ?_
          rintro E w6 ⟨o, rfl, ho, hbit, hb⟩
          have HB6 := Aside0.mk (below_then HB.out (HB.out).size hb)
          have HMK := Aside0.mk (show IsMask M.length (accT M ⟨(f : Int), l⟩) o from ⟨ho, fun i hi => by
            rw [hbit i hi]
            by_cases e : i < M.length
            · rw [HEQ.out i e]
            · rw [decide_eq_false e, Bool.false_and, Bool.false_and]⟩)
          clear hk0 hk1 hk2 hk3 hb HB HB1 HB2 HSat HEQ
          go_wp2
          go_ret
          exact ⟨o, rfl, HMK.out, HB6.out⟩
end Go.Proofs.YtmphigeefppfpaaDoor.H
