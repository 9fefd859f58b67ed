/- What autoOwn_calls, handed_and_shaped, own, laidOut, laid7, mx_of_shaped, tabD_of_laid, arg_auto, arg_tree needs, out of my texts, by a program (slim.py). -/
import Derived.Test.YtbmcigakiibncaaGreatDoorSO3
namespace Go.Proofs.YtbmcigakiibncaaGreatDoor.H
open Go.RowKit Go.Proofs.YtbmcigakiibncaaGreatDoorW.PrintWords Go.Proofs.YtbmcigakiibncaaGreatDoorW.PrintLast Go.Proofs.YtbmcigakiibncaaGreatDoorW.PrintMore
set_option linter.unusedVariables false
set_option linter.unusedSimpArgs false
def eqI : List Int → List Int → Bool := eqF 0 (fun x y => decide (x = y))
theorem eqI_iff (a b : List Int) : eqI a b = true ↔ a = b := eqF_iff (fun x y => decide_eq_true_iff) a b
theorem rdI_at {l : List Int} {j : Nat} : rd l (j : Int) = l.getD j 0 := by simp [rd]
theorem eqI_l0 (a b : List Int) (hm : a.length ≤ 9223372036854775807) (hl : a.length = b.length) (d : Nat) : ∀ j : Nat, a.length - j = d → j ≤ a.length → Ev (fun k => Q.slices_Equal_int_int.l0 k a b (a.length : Int) (j : Int)) (allF (fun i => decide (a.getD i 0 = b.getD i 0)) j d) := by
  induction d with
  | zero =>
    intro j hd hj
    refine ev_end fun k => ?_
    simp only [Q.slices_Equal_int_int.l0]
    rw [if_neg (by omega)]; rfl
  | succ d ih =>
    intro j hd hj
    rw [allF]
    by_cases e : a.getD j 0 = b.getD j 0
    · rw [decide_eq_true e, Bool.true_and]
      refine ev_next (ih (j + 1) (by omega) (by omega)) fun k => ?_
      simp only [Q.slices_Equal_int_int.l0]
      rw [rdI_at, rdI_at, if_pos (by omega), if_pos (by omega), if_pos (by omega), if_pos (by omega), if_pos e, wrap_succ (by omega) (by omega)]
      rfl
    · rw [decide_eq_false e, Bool.false_and]
      refine ev_end fun k => ?_
      simp only [Q.slices_Equal_int_int.l0]
      rw [rdI_at, rdI_at, if_pos (by omega), if_pos (by omega), if_pos (by omega), if_pos (by omega), if_neg e]
theorem eqI_ev (a b : List Int) (hm : a.length ≤ 9223372036854775807) : Ev (fun k => Q.slices_Equal_int_int.f k a b) (eqI a b) := by
  unfold Q.slices_Equal_int_int.f
  by_cases hl : a.length = b.length
  · simp only [if_pos (show (a.length : Int) = (b.length : Int) by omega)]
    have h := eqI_l0 a b hm hl _ 0 rfl (Nat.zero_le _)
    unfold eqI eqF
    rw [decide_eq_true hl, Bool.true_and]
    exact h
  · simp only [if_neg (show ¬ (a.length : Int) = (b.length : Int) by omega)]
    rw [show eqI a b = false from eqF_len hl]
    exact ev_end fun k => rfl
theorem sr_eq : ∀ (k : Nat) (x0 x1 : List Int) (x12 x13 : Int), Q.virgationref09_SameRanks.l0 k x0 x1 x12 x13 = Q.slices_Equal_int_int.l0 k x0 x1 x12 x13
  | 0, _, _, _, _ => rfl
  | k + 1, x0, x1, x12, x13 => by
    simp only [Q.virgationref09_SameRanks.l0, Q.slices_Equal_int_int.l0]
    rw [sr_eq k]
theorem sameRanks_ev (a b : List Int) (hm : a.length ≤ 9223372036854775807) : Ev (fun k => Q.virgationref09_SameRanks.f k a b) (eqI a b) :=
  Ev.congr (fun k => by unfold Q.virgationref09_SameRanks.f Q.slices_Equal_int_int.f; rw [sr_eq]) (eqI_ev a b hm)
theorem eqI_calls (A : Option Addr) (c : Nat) (a : List Int) (B : Option Addr) (d : Nat) (b : List Int) (w : World) (hA : Kd.C (Kd.int .i64) w A a.length a) (hc : a.length ≤ c) (hB : Kd.C (Kd.int .i64) w B b.length b) (hd : b.length ≤ d) :
    Calls Tryz.prog 79 #[.slice A a.length c, .slice B b.length d] w fun e w' => e = .returned (.bool (eqI a b)) ∧ Below w.heap.size w w' := by
  obtain ⟨k, hk⟩ := (eqI_ev a b hA.2.1).rounds
  exact (Q.slices_Equal_int_int.calls k A c a B d b _ w hA hc hB hd hk).mono fun e w' h => ⟨h.1, h.2.below⟩
theorem eqMoves_l0 (a b : List (List Nd)) (hm : a.length ≤ 9223372036854775807) (hx : ∀ x ∈ a, x.length ≤ 9223372036854775807) (hl : a.length = b.length) (d : Nat) : ∀ j : Nat, a.length - j = d → j ≤ a.length → Ev (fun k => Q.virgationref09_EqualMoves.l0 k a b (a.length : Int) (j : Int)) (allF (fun i => eq1 (a.getD i []) (b.getD i [])) j d) := by
  induction d with
  | zero =>
    intro j hd hj
    refine ev_end fun k => ?_
    simp only [Q.virgationref09_EqualMoves.l0]
    rw [if_neg (by omega)]; rfl
  | succ d ih =>
    intro j hd hj
    rw [allF]
    refine ev_next (f := fun k => (Q.virgationref09_Compare.f k (a.getD j []) (b.getD j [])).bind fun t => if t = 0 then Q.virgationref09_EqualMoves.l0 k a b (a.length : Int) ((j + 1 : Nat) : Int) else some false) (Ev.bind (compareF_ev _ _ (hx _ (getD_memD [] (by omega)))) ?_) fun k => ?_
    · by_cases e : a.getD j [] = b.getD j []
      · rw [(eq1_iff _ _).2 e, Bool.true_and, e, cmpL_self]
        simp only [if_pos (show sgI 0 = 0 from rfl)]
        exact ih (j + 1) (by omega) (by omega)
      · have e1 : eq1 (a.getD j []) (b.getD j []) = false := by
          cases h : eq1 (a.getD j []) (b.getD j []) with
          | false => rfl
          | true => exact absurd ((eq1_iff _ _).1 h) e
        rw [e1, Bool.false_and]
        simp only [if_neg (show ¬ sgI (cmpL (a.getD j []) (b.getD j [])) = 0 from fun h => e (cmpL_zero ((sgI_zero _).1 h)))]
        exact ev_end fun k => rfl
    · simp only [Q.virgationref09_EqualMoves.l0]
      rw [rdL2_at, rdL2_at, if_pos (by omega), if_pos (by omega), if_pos (by omega), if_pos (by omega), wrap_succ (by omega) (by omega)]
      rfl
theorem eqMoves_ev (a b : List (List Nd)) (hm : a.length ≤ 9223372036854775807) (hx : ∀ x ∈ a, x.length ≤ 9223372036854775807) : Ev (fun k => Q.virgationref09_EqualMoves.f k a b) (eq2 a b) := by
  unfold Q.virgationref09_EqualMoves.f
  by_cases hl : a.length = b.length
  · simp only [if_pos (show (a.length : Int) = (b.length : Int) by omega)]
    have h := eqMoves_l0 a b hm hx hl _ 0 rfl (Nat.zero_le _)
    unfold eq2 eqF
    rw [decide_eq_true hl, Bool.true_and]
    exact h
  · simp only [if_neg (show ¬ (a.length : Int) = (b.length : Int) by omega)]
    rw [show eq2 a b = false from eqF_len hl]
    exact ev_end fun k => rfl
def sameB (rk : List Int) (st : Int) (M : Mv) (rk' : List Int) (st' : Int) (M' : Mv) : Bool := auB rk st M && (auB rk' st' M' && (eqI rk rk' && (decide (st = st') && eq4 M M')))
end Go.Proofs.YtbmcigakiibncaaGreatDoor.H
namespace Go.Proofs.YtbmcigakiibncaaGreatDoor.H
open Go.RowKit Go.Proofs.YtbmcigakiibncaaGreatDoorW.PrintWords Go.Proofs.YtbmcigakiibncaaGreatDoorW.PrintLast Go.Proofs.YtbmcigakiibncaaGreatDoorW.PrintMore
set_option linter.unusedVariables false
set_option linter.unusedSimpArgs false
def loopsOf : Code → List Code
  | .loop c => c :: loopsOf c
  | .seq a b => loopsOf a ++ loopsOf b
  | .block _ c => loopsOf c
  | .scope c => loopsOf c
  | .cond _ a b => loopsOf a ++ loopsOf b
  | _ => []
noncomputable def body26 : Code := ((Tryz.f26.body.map loopsOf).getD []).getD 2 .skip
theorem cutL_calls (l : List UInt8) (X : ByteArray) (c : UInt8) (W : World) (h : X.data.toList = l) (hs : X.size ≤ 70000) (hm : MX W) :
    Calls Tryz.prog 62 #[.string X, .string ⟨#[c]⟩] W fun e w' => e = .returned (.tuple #[.string ⟨(Lib.cut l [c]).1.toArray⟩, .string ⟨(Lib.cut l [c]).2.1.toArray⟩, .bool (Lib.cut l [c]).2.2]) ∧ Below W.heap.size W w' := by
  obtain ⟨m, hm⟩ := hm
  refine (Tryz.strings_Cut X ⟨#[c]⟩ m W (by omega) hm).mono ?_
  rintro e w' ⟨rfl, n, rfl⟩
  rw [h]
  exact ⟨rfl, pw_below_drewN (Below.refl _ _) n⟩
theorem gstep_bad {states : Int} {m : Nat} {s : ByteArray} {r : List ByteArray} {last : Int} {M : Mv} (h : (lnGo s && lnOk states m last s) = false) : gstep states m (s :: r) last M = none := by
  rw [gstep, h]; rfl
theorem gstep_alt {states : Int} {m : Nat} {s : ByteArray} {r : List ByteArray} {last : Int} {M : Mv} (hz : lnZ s = none) : gstep states m (s :: r) last M = none := by
  rw [gstep, hz]
  split <;> rfl
theorem gstep_go {states : Int} {m : Nat} {s : ByteArray} {r : List ByteArray} {last : Int} {M : Mv} {z : List Nd} (h : (lnGo s && lnOk states m last s) = true) (hz : lnZ s = some z) :
    gstep states m (s :: r) last M = gstep states m r (lnQ s * m + lnF s) (if lnQ s < M.length then addAlt M (lnQ s).toNat (lnF s).toNat z else M) := by
  rw [gstep, h, hz]; rfl
theorem num0_range {l : List UInt8} (h : numOk l = true) : 0 ≤ num0V l ∧ num0V l ≤ 1000000000 := num_nonneg (s := ⟨l.toArray⟩) h
theorem addAlt_cnt {M : Mv} {q f k : Nat} {z : List Nd} (hq : q < M.length) (hf : f < (M.getD q []).length) (h : ∀ a b, ((M.getD a []).getD b []).length ≤ k) : ∀ a b, (((addAlt M q f z).getD a []).getD b []).length ≤ k + 1 := by
  intro a b
  rw [addAlt_row hq]
  by_cases e : a = q
  · rw [if_pos e, setD hf]
    split
    · have := h q f
      rw [List.length_append, List.length_singleton]; omega
    · have := h q b; omega
  · rw [if_neg e]; have := h a b; omega
theorem size_toArray (l : List UInt8) : (⟨l.toArray⟩ : ByteArray).size = l.length := List.size_toArray
theorem mul_bound {q : Int} {m : Nat} (h0 : 0 ≤ q) (h1 : q ≤ 1000000000) (hm : m ≤ 65536) : 0 ≤ q * m ∧ q * m ≤ 65536000000000 := by
  refine ⟨Int.mul_nonneg h0 (by omega), ?_⟩
  have h2 : q * m ≤ 1000000000 * m := Int.mul_le_mul_of_nonneg_right h1 (by omega)
  omega
def tabT26 : Bool × List (List Nat × List Nat) := (true, [([], []), ([0], [0]), ([], []), ([1, 2], [1, 2]), ([3], [3]), ([], []), ([], []), ([6], [6]), ([], []), ([7, 8], [7, 8]), ([9], [9]), ([], []), ([10, 11], [10, 11]), ([12], [12]), ([], []), ([14], [14]), ([13, 15], [13, 15]), ([4, 5, 0, 1, 2, 3, 4, 5, 6, 7, 8, 9, 10, 11, 12, 13, 14, 15, 16], [4, 5]), ([17, 16, 16, 0, 1, 2, 3, 4, 5, 6, 7, 8, 9, 10, 11, 12, 13, 14, 15, 16], [16, 17])])
theorem tab26 : rtab .any (opsOf Tryz.f26 35) = tabT26 := by kernel_rfl
theorem bits26 : waitsOk tabT26.2 [0, 1, 0, 7, 15, 0, 0, 64, 0, 448, 960, 0, 4032, 8128, 0, 16384, 65472, 131071, 262143] = true := by kernel_rfl
set_option maxHeartbeats 16000000 in
set_option maxRecDepth 1000000 in
theorem loop26 (t : ByteArray) (w : World) (L wd : List ByteArray) (n N bl cp : Nat) (A : Option Addr) (c : Nat) (A2 : Option Addr) (c2 : Nat) (st states : Int) (K : Act → World → Prop) (wr : World) (M0 : Mv) (gs0 : List Nat) (uu0 : Nat → Nat → Value)
    (u0 u1 u4 u5 u6 u7 u10 u11 u12 u13 u14 u15 u16 u17 u18 u19 u20 u21 u22 u23 u24 u25 u26 u27 u28 u29 u30 u31 u32 u33 u34 u35 u36 u37 u38 u39 u40 u41 u42 u43 u44 u45 u46 u47 u48 u49 u50 u51 u52 u53 u54 u55 u56 u57 u58 u59 u60 u61 u62 u63 u64 u65 u66 u67 u68 u69 u70 u71 u72 u73 u74 u75 u76 u77 u78 u79 u80 u81 u82 u83 u84 u85 u86 u87 u88 u89 u90 u91 u92 u93 u94 u95 u96 u97 u98 u99 u100 u104 u105 u106 u107 u108 u109 u110 u111 u112 u113 u114 u115 u116 u117 u118 u119 u120 u121 u122 u123 u124 u125 u126 u127 u128 u129 u130 u131 u132 u133 u134 u135 u136 u137 u138 u139 u140 u141 u142 u143 u144 u145 u146 u147 u148 u149 u150 u151 u152 u153 u154 u155 u156 u157 u158 u159 u160 u161 u162 u163 u164 u165 u166 u167 u168 u169 u170 u171 u172 u173 u174 u175 u176 u177 u178 u179 u180 u181 u182 u183 u184 u185 u186 u187 u188 u189 u190 u191 : Value)
    (HSZ : Aside0 (t.size ≤ 65536)) (HM : Aside0 (MX w)) (HCS : Aside0 (∀ i, (L.getD i ByteArray.empty).size ≤ t.size)) (HWL : Aside0 (wd.length ≤ 65536)) (HNL : Aside0 (L.length = n + 3)) (HLN : Aside0 (n ≤ 65536)) (HN7 : Aside0 (N ≤ 7 ∧ N = (min states 7).toNat)) (HST : Aside0 (0 ≤ states ∧ states ≤ 1000000000)) (HML : Aside0 (M0.length = N)) (HCN : Aside0 (∀ a b, ((M0.getD a []).getD b []).length ≤ 0))
    (HG : Aside0 (GL w wr (.slice A wd.length c) (.int .i64 st) (.slice A2 N c2) bl L)) (HR : Aside0 (Kd.R (Kd.int .i64) 3 wr w.heap.size (fun k => w.heap.size + 2 ≤ k) (.slice A wd.length c) (wd.map valW))) (HMM : Aside0 (MM w.heap.size (w.heap.size + 2) wr (.slice A2 N c2) M0 wd.length gs0 uu0))
    (HV : Aside0 (getV t = (gstep states wd.length ((L.drop 2).take n) (-1) M0).map fun M => (wd.map valW, st, M)))
    (hK : Aside0 (∀ (u9 u11 u12 u13 u14 u15 u16 u17 u18 u19 u20 u103 u104 u105 u106 u107 u108 u109 u110 u111 u112 u113 u114 u115 u116 u117 u118 u119 u120 u121 u122 u123 u124 u125 u126 u127 u128 u129 u130 u131 u132 u133 u134 u135 u136 u137 u138 u139 u140 u141 u142 u143 u144 u145 u146 u147 u148 u149 u150 u151 u152 u153 u154 u155 u156 u157 u158 u159 u160 u161 u162 u163 u164 u165 u166 u167 u168 u169 u170 u171 u172 u173 u174 u175 u176 u177 u178 u179 u180 u181 u182 u183 u184 u185 u186 : Value) (W : World) (M : Mv) (gs : List Nat) (uu : Nat → Nat → Value), GL w W (.slice A wd.length c) (.int .i64 st) (.slice A2 N c2) bl L → Kd.R (Kd.int .i64) 3 W w.heap.size (fun k => w.heap.size + 2 ≤ k) (.slice A wd.length c) (wd.map valW) → MM w.heap.size (w.heap.size + 2) W (.slice A2 N c2) M wd.length gs uu → M.length = N → getV t = some (wd.map valW, st, M) →
      K { tmps := List.toArray (u0 :: u1 :: (.pointer (some ⟨w.heap.size, 0, none⟩)) :: (.pointer (some ⟨w.heap.size + 1, 0, none⟩)) :: u4 :: u5 :: u6 :: u7 :: (.int .i64 states) :: u9 :: u10 :: u11 :: u12 :: u13 :: u14 :: u15 :: u16 :: u17 :: u18 :: u19 :: u20 :: u21 :: u22 :: u23 :: u24 :: u25 :: u26 :: u27 :: u28 :: u29 :: u30 :: u31 :: u32 :: u33 :: u34 :: u35 :: u36 :: u37 :: u38 :: u39 :: u40 :: u41 :: u42 :: u43 :: u44 :: u45 :: u46 :: u47 :: u48 :: u49 :: u50 :: u51 :: u52 :: u53 :: u54 :: u55 :: u56 :: u57 :: u58 :: u59 :: u60 :: u61 :: u62 :: u63 :: u64 :: u65 :: u66 :: u67 :: u68 :: u69 :: u70 :: u71 :: u72 :: u73 :: u74 :: u75 :: u76 :: u77 :: u78 :: u79 :: u80 :: u81 :: u82 :: u83 :: u84 :: u85 :: u86 :: u87 :: u88 :: u89 :: u90 :: u91 :: u92 :: u93 :: u94 :: u95 :: u96 :: u97 :: u98 :: u99 :: u100 :: (.slice (some ⟨bl, 2, none⟩) n cp) :: (.int .i64 (n : Int)) :: u103 :: u104 :: u105 :: u106 :: u107 :: u108 :: u109 :: u110 :: u111 :: u112 :: u113 :: u114 :: u115 :: u116 :: u117 :: u118 :: u119 :: u120 :: u121 :: u122 :: u123 :: u124 :: u125 :: u126 :: u127 :: u128 :: u129 :: u130 :: u131 :: u132 :: u133 :: u134 :: u135 :: u136 :: u137 :: u138 :: u139 :: u140 :: u141 :: u142 :: u143 :: u144 :: u145 :: u146 :: u147 :: u148 :: u149 :: u150 :: u151 :: u152 :: u153 :: u154 :: u155 :: u156 :: u157 :: u158 :: u159 :: u160 :: u161 :: u162 :: u163 :: u164 :: u165 :: u166 :: u167 :: u168 :: u169 :: u170 :: u171 :: u172 :: u173 :: u174 :: u175 :: u176 :: u177 :: u178 :: u179 :: u180 :: u181 :: u182 :: u183 :: u184 :: u185 :: u186 :: u187 :: u188 :: u189 :: u190 :: u191 :: []), defers := [{ target := .fn (.func 58) #[.pointer (some ⟨w.heap.size, 0, none⟩), .pointer (some ⟨w.heap.size + 1, 0, none⟩)], args := #[] }] } W)) :
    Code.wp Tryz.prog (Code.loop body26) (Exit.inBlock 4 (Exit.then K (bodyPostD Tryz.prog Tryz.f26 (GetE t w)))) { tmps := List.toArray (u0 :: u1 :: (.pointer (some ⟨w.heap.size, 0, none⟩)) :: (.pointer (some ⟨w.heap.size + 1, 0, none⟩)) :: u4 :: u5 :: u6 :: u7 :: (.int .i64 states) :: (.int .i64 (-1)) :: u10 :: u11 :: u12 :: u13 :: u14 :: u15 :: u16 :: u17 :: u18 :: u19 :: u20 :: u21 :: u22 :: u23 :: u24 :: u25 :: u26 :: u27 :: u28 :: u29 :: u30 :: u31 :: u32 :: u33 :: u34 :: u35 :: u36 :: u37 :: u38 :: u39 :: u40 :: u41 :: u42 :: u43 :: u44 :: u45 :: u46 :: u47 :: u48 :: u49 :: u50 :: u51 :: u52 :: u53 :: u54 :: u55 :: u56 :: u57 :: u58 :: u59 :: u60 :: u61 :: u62 :: u63 :: u64 :: u65 :: u66 :: u67 :: u68 :: u69 :: u70 :: u71 :: u72 :: u73 :: u74 :: u75 :: u76 :: u77 :: u78 :: u79 :: u80 :: u81 :: u82 :: u83 :: u84 :: u85 :: u86 :: u87 :: u88 :: u89 :: u90 :: u91 :: u92 :: u93 :: u94 :: u95 :: u96 :: u97 :: u98 :: u99 :: u100 :: (.slice (some ⟨bl, 2, none⟩) n cp) :: (.int .i64 (n : Int)) :: (.int .i64 0) :: u104 :: u105 :: u106 :: u107 :: u108 :: u109 :: u110 :: u111 :: u112 :: u113 :: u114 :: u115 :: u116 :: u117 :: u118 :: u119 :: u120 :: u121 :: u122 :: u123 :: u124 :: u125 :: u126 :: u127 :: u128 :: u129 :: u130 :: u131 :: u132 :: u133 :: u134 :: u135 :: u136 :: u137 :: u138 :: u139 :: u140 :: u141 :: u142 :: u143 :: u144 :: u145 :: u146 :: u147 :: u148 :: u149 :: u150 :: u151 :: u152 :: u153 :: u154 :: u155 :: u156 :: u157 :: u158 :: u159 :: u160 :: u161 :: u162 :: u163 :: u164 :: u165 :: u166 :: u167 :: u168 :: u169 :: u170 :: u171 :: u172 :: u173 :: u174 :: u175 :: u176 :: u177 :: u178 :: u179 :: u180 :: u181 :: u182 :: u183 :: u184 :: u185 :: u186 :: u187 :: u188 :: u189 :: u190 :: u191 :: []), defers := [{ target := .fn (.func 58) #[.pointer (some ⟨w.heap.size, 0, none⟩), .pointer (some ⟨w.heap.size + 1, 0, none⟩)], args := #[] }] } wr := by
  conv => arg 2; arg 1; whnf
  go_loopg [103, 9] n (fun gg v103 v9 wi => ∃ (k : Nat) (last : Int) (M : Mv) (gs : List Nat) (uu : Nat → Nat → Value), k ≤ n ∧ n - k ≤ gg ∧ v103 = .int .i64 k ∧ v9 = .int .i64 last ∧ Aside0 (GL w wi (.slice A wd.length c) (.int .i64 st) (.slice A2 N c2) bl L) ∧ Aside0 (Kd.R (Kd.int .i64) 3 wi w.heap.size (fun k => w.heap.size + 2 ≤ k) (.slice A wd.length c) (wd.map valW)) ∧ Aside0 (MM w.heap.size (w.heap.size + 2) wi (.slice A2 N c2) M wd.length gs uu) ∧ Aside0 (M.length = N) ∧ Aside0 (getV t = (gstep states wd.length (((L.drop 2).take n).drop k) last M).map fun M => (wd.map valW, st, M)) ∧ Aside0 (-1 ≤ last ∧ last ≤ 70000000000000) ∧ Aside0 (∀ a b, ((M.getD a []).getD b []).length ≤ k))
  case atStart => exact ⟨0, -1, M0, gs0, uu0, Nat.zero_le _, Nat.le_refl _, rfl, rfl, HG, HR, HMM, HML, HV, ⟨by omega⟩, HCN⟩
  case round =>
    clear HG HR HMM HML HV HCN
    obtain ⟨k, last, M, gs, uu, hk, hgg, rfl, rfl, HG, HR, HMM, HML, HV, HLA, HCN⟩ := hrel
    by_cases hlt : k < n
    · have hltz : (k : Int) < (n : Int) := by omega
      have HLT := Aside0.mk hlt
      have hk := strs_cell (HG.out).l (show 2 + k < L.length by rw [HNL.out]; omega)
      have HS1Z := Aside0.mk (HCS.out (2 + k))
      have HDR := Aside0.mk (show ((L.drop 2).take n).drop k = L.getD (2 + k) ByteArray.empty :: ((L.drop 2).take n).drop (k + 1) from by
        have hl : k < ((L.drop 2).take n).length := by rw [List.length_take, List.length_drop, HNL.out]; omega
        rw [List.drop_eq_getElem_cons hl]
        congr 1
        have h2 : 2 + k < L.length := by rw [HNL.out]; omega
        simp [List.getD_eq_getElem?_getD, h2])
      generalize L.getD (2 + k) ByteArray.empty = s at *
      have HBAD := Aside0.mk (fun (h : (lnGo s && lnOk states wd.length last s) = false) => (show getV t = none by rw [HV.out, HDR.out, gstep_bad h]; rfl))
      have HBZ := Aside0.mk (fun (h : lnZ s = none) => (show getV t = none by rw [HV.out, HDR.out, gstep_alt h]; rfl))
      have HSL := Aside0.mk (show s.data.toList.length ≤ 65536 from by rw [← Lib.size_eq]; have := HS1Z.out; have := HSZ.out; omega)
      have HC1 := Aside0.mk (cutL_calls s.data.toList s 58 wr rfl (by rw [Lib.size_eq]; have := HSL.out; omega) ((HM.out).below (HG.out).g.hb))
      have HAT := Aside0.mk (show lnAt s = Lib.cut s.data.toList [58] from rfl)
      have HATZ := Aside0.mk (cut_size s.data.toList [58])
      generalize Lib.cut s.data.toList [58] = p1 at HC1 HAT HATZ
      obtain ⟨a1, r1, o1⟩ := p1
      have HA1Z := Aside0.mk (show a1.length ≤ 65536 from Nat.le_trans (HATZ.out).1 HSL.out)
      have HR1Z := Aside0.mk (show r1.length ≤ 65536 from Nat.le_trans (HATZ.out).2 HSL.out)
      clear HATZ
      go_wp2_with fail
      refine (HC1.out).mono ?_
      rintro E w4 ⟨rfl, hb⟩
      have HG4 := Aside0.mk ((HG.out).below hb)
      have HR4 := Aside0.mk (Kd.R_below HR.out hb)
      have HM4 := Aside0.mk ((HMM.out).below hb)
      clear hb HG HR HMM hk HC1
      have HC2 := Aside0.mk (cutL_calls a1 ⟨a1.toArray⟩ 32 w4 rfl (by rw [size_toArray]; have := HA1Z.out; omega) ((HM.out).below (HG4.out).g.hb))
      have HXY := Aside0.mk (show lnXY s = Lib.cut a1 [32] by unfold lnXY; rw [HAT.out])
      have HXYZ := Aside0.mk (cut_size a1 [32])
      generalize Lib.cut a1 [32] = p2 at HC2 HXY HXYZ
      obtain ⟨a2, r2, o2⟩ := p2
      have HA2Z := Aside0.mk (show a2.length ≤ 65536 from Nat.le_trans (HXYZ.out).1 HA1Z.out)
      have HR2Z := Aside0.mk (show r2.length ≤ 65536 from Nat.le_trans (HXYZ.out).2 HA1Z.out)
      clear HXYZ
      go_wp2_with fail
      refine (HC2.out).mono ?_
      rintro E w5 ⟨rfl, hb⟩
      have HG5 := Aside0.mk ((HG4.out).below hb)
      have HR5 := Aside0.mk (Kd.R_below HR4.out hb)
      have HM5 := Aside0.mk ((HM4.out).below hb)
      clear hb HG4 HR4 HM4 HC2
      cases o1 with
      | false =>
        have HN := Aside0.mk (HBAD.out (by unfold lnGo; rw [HAT.out]; rfl))
        go_wp2
        exact get_panic (getR_bad HSZ.out HN.out) (HG5.out).g _ rfl rfl
      | true =>
      cases o2 with
      | false =>
        have HN := Aside0.mk (HBAD.out (by unfold lnGo; rw [HXY.out, HAT.out]; rfl))
        go_wp2
        exact get_panic (getR_bad HSZ.out HN.out) (HG5.out).g _ rfl rfl
      | true =>
      have HN1 := Aside0.mk (show Calls Tryz.prog 61 #[.string ⟨a2.toArray⟩] w5 fun E w' => E = numE a2 ∧ Below w5.heap.size w5 w' from number_calls ⟨a2.toArray⟩ w5 (by rw [size_toArray]; have := HA2Z.out; omega))
      go_wp2_with fail
      refine (HN1.out).mono ?_
      rintro E w6 ⟨rfl, hb⟩
      have HG6 := Aside0.mk ((HG5.out).below hb)
      have HR6 := Aside0.mk (Kd.R_below HR5.out hb)
      have HM6 := Aside0.mk ((HM5.out).below hb)
      clear hb HG5 HR5 HM5 HN1
      cases q1 : numOk a2 with
      | false =>
        have HN := Aside0.mk (HBAD.out (by unfold lnGo; rw [HXY.out, HAT.out, q1]; rfl))
        rw [show numE a2 = pbad by unfold numE; rw [q1]; rfl]
        unfold pbad
        clear q1
        go_wp2
        exact get_panic (getR_bad HSZ.out HN.out) (HG6.out).g _ rfl rfl
      | true =>
      rw [show numE a2 = .returned (.int .i64 (num0V a2)) by unfold numE; rw [q1]; rfl]
      have HN2 := Aside0.mk (show Calls Tryz.prog 61 #[.string ⟨r2.toArray⟩] w6 fun E w' => E = numE r2 ∧ Below w6.heap.size w6 w' from number_calls ⟨r2.toArray⟩ w6 (by rw [size_toArray]; have := HR2Z.out; omega))
      have HQ1 := Aside0.mk q1
      clear q1
      go_wp2_with fail
      refine (HN2.out).mono ?_
      rintro E w7 ⟨rfl, hb⟩
      have HG7 := Aside0.mk ((HG6.out).below hb)
      have HR7 := Aside0.mk (Kd.R_below HR6.out hb)
      have HM7 := Aside0.mk ((HM6.out).below hb)
      clear hb HG6 HR6 HM6 HN2
      cases q2 : numOk r2 with
      | false =>
        have HN := Aside0.mk (HBAD.out (by unfold lnGo; rw [HXY.out, HAT.out, q2, HQ1.out]; rfl))
        rw [show numE r2 = pbad by unfold numE; rw [q2]; rfl]
        unfold pbad
        clear q2
        go_wp2
        exact get_panic (getR_bad HSZ.out HN.out) (HG7.out).g _ rfl rfl
      | true =>
      rw [show numE r2 = .returned (.int .i64 (num0V r2)) by unfold numE; rw [q2]; rfl]
      have HGO := Aside0.mk (show lnGo s = true by unfold lnGo; rw [HXY.out, HAT.out, q2, HQ1.out]; rfl)
      obtain ⟨qa, qb⟩ := num0_range HQ1.out
      obtain ⟨fa, fb⟩ := num0_range q2
      have HLQ := Aside0.mk (show lnQ s = num0V a2 by unfold lnQ; rw [HXY.out])
      have HLF := Aside0.mk (show lnF s = num0V r2 by unfold lnF; rw [HXY.out])
      clear q2 HQ1
      generalize num0V a2 = q at *
      generalize num0V r2 = f at *
      obtain ⟨ma, mb⟩ := mul_bound (m := wd.length) qa qb HWL.out
      obtain ⟨k0, k1, k2, k3⟩ := (HG7.out).g.cells
      obtain ⟨qm, hqm⟩ : ∃ x, q * (wd.length : Int) = x := ⟨_, rfl⟩
      rw [hqm] at ma mb
      have hm1 : wrap64 (q * (wd.length : Int)) = qm := by rw [hqm]; exact wr_id (by omega) (by omega)
      have HOKD := Aside0.mk (show lnOk states wd.length last s = !(decide (q ≥ states) || decide (f ≥ (wd.length : Int)) || decide (qm + f < last)) by unfold lnOk; rw [HLQ.out, HLF.out, hqm])
      have HQM := Aside0.mk (show lnQ s * (wd.length : Int) + lnF s = qm + f by rw [HLQ.out, HLF.out, hqm])
      clear hqm
      have hm2 : wrap64 (qm + f) = qm + f := wr_id (by omega) (by omega)
      have HBO := Aside0.mk (fun (h : (decide (q ≥ states) || decide (f ≥ (wd.length : Int)) || decide (qm + f < last)) = true) => HBAD.out (by rw [HOKD.out, h]; simp))
      cases t1 : decide (q ≥ states) with
      | true =>
        have HN := Aside0.mk (HBO.out (by rw [t1]; rfl))
        go_wp2
        exact get_panic (getR_bad HSZ.out HN.out) (HG7.out).g _ rfl rfl
      | false =>
      cases t2 : decide (f ≥ (wd.length : Int)) with
      | true =>
        have HN := Aside0.mk (HBO.out (by rw [t1, t2]; rfl))
        go_wp2
        exact get_panic (getR_bad HSZ.out HN.out) (HG7.out).g _ rfl rfl
      | false =>
      cases t3 : decide (qm + f < last) with
      | true =>
        have HN := Aside0.mk (HBO.out (by rw [t1, t2, t3]; rfl))
        go_wp2
        exact get_panic (getR_bad HSZ.out HN.out) (HG7.out).g _ rfl rfl
      | false =>
      have HOK := Aside0.mk (show (lnGo s && lnOk states wd.length last s) = true by rw [HGO.out, HOKD.out, t1, t2, t3]; rfl)
      have HAL := Aside0.mk (alternative_calls ⟨r1.toArray⟩ w7 (by rw [size_toArray]; have := HR1Z.out; omega) ((HM.out).below (HG7.out).g.hb))
      go_wp2_with fail
      have HFM := Aside0.mk (show f < (wd.length : Int) from by have := of_decide_eq_false t2; omega)
      clear t1 t2 t3
      refine (HAL.out).mono ?_
      rintro E w8 ⟨hb, ⟨hno, rfl⟩ | ⟨ys, v, hys, rfl, hRz⟩⟩
      · have HN := Aside0.mk (HBZ.out (show lnZ s = none by unfold lnZ; rw [HAT.out]; exact hno))
        have HG8 := Aside0.mk ((HG7.out).below hb)
        unfold pbad
        go_wp2
        exact get_panic (getR_bad HSZ.out HN.out) (HG8.out).g _ rfl rfl
      have HZ := Aside0.mk (show lnZ s = some ys by unfold lnZ; rw [HAT.out]; exact hys)
      have HG8 := Aside0.mk ((HG7.out).below hb)
      have HR8 := Aside0.mk (Kd.R_below HR7.out hb)
      have HM8 := Aside0.mk ((HM7.out).below hb)
      have H78 := Aside0.mk (show w.heap.size + 2 ≤ w7.heap.size ∧ w7.heap.size ≤ w8.heap.size from ⟨by have := blk_lt (HG7.out).l; have := (HG7.out).hbl; omega, hb.size⟩)
      have HRZ := Aside0.mk (Kd.R_lower hRz (show w.heap.size ≤ w7.heap.size by have := blk_lt (HG7.out).l; have := (HG7.out).hbl; omega))
      have HOLD := Aside0.mk (fun (a b : Nat) (ha : a < M.length) (hb' : b < wd.length) (kk : Nat) (hkk : (uu a b).ownBlock = some kk) => (ownBlock_typed ((HM7.out).alts a b ha hb') hkk).2)
      have HSTEP := Aside0.mk (show getV t = (gstep states wd.length (((L.drop 2).take n).drop (k + 1)) (qm + f) (if q < (M.length : Int) then addAlt M q.toNat f.toNat ys else M)).map fun M => (wd.map valW, st, M) by rw [HV.out, HDR.out, gstep_go HOK.out HZ.out, HQM.out, HLQ.out, HLF.out])
      have HKZ := Aside0.mk (show wrap64 ((k : Int) + 1) = ((k + 1 : Nat) : Int) by rw [wr_id (by omega) (by have := HLN.out; omega)]; rfl)
      obtain ⟨A3, c3, rfl⟩ := Kd.R_slice hRz
      clear hb hys hRz HG7 HR7 HM7 HAL HV HBAD HBZ HBO HOKD HOK HQM HLQ HLF HGO HZ HXY HAT HDR k0 k1 k2 k3
      obtain ⟨qn, rfl⟩ := Int.eq_ofNat_of_zero_le qa
      obtain ⟨fn, rfl⟩ := Int.eq_ofNat_of_zero_le fa
      have hfm : fn < wd.length := by have := HFM.out; omega
      obtain ⟨k0, k1, k2, k3⟩ := (HG8.out).g.cells
      have HLA2 := Aside0.mk (show -1 ≤ qm + (fn : Int) ∧ qm + (fn : Int) ≤ 70000000000000 from by omega)
      by_cases hqN : qn < N
      · have hqM : qn < M.length := by rw [HML.out]; exact hqN
        have HSTEP2 := Aside0.mk (show getV t = (gstep states wd.length (((L.drop 2).take n).drop (k + 1)) (qm + fn) (addAlt M qn fn ys)).map fun M => (wd.map valW, st, M) by rw [HSTEP.out, if_pos (by omega)]; rfl)
        obtain ⟨ab, cap, e1, r0, c0, f0, ⟨abc, hab⟩, ⟨gbc, hgb⟩, hgB⟩ := (HM8.out).at hqM hfm
        injection e1 with e1 e2 e3
        subst e1 e3
        have HAB := Aside0.mk hab
        have HGB := Aside0.mk hgb
        have HGBB := Aside0.mk hgB
        have HQM2 := Aside0.mk (And.intro hqM hfm)
        have HUB := Aside0.mk (HOLD.out qn fn hqM hfm)
        have HLM := Aside0.mk (show ((M.getD qn []).getD fn []).length ≤ 65536 from by have := HCN.out qn fn; have := HLN.out; omega)
        have HCN2 := Aside0.mk (addAlt_cnt (z := ys) hqM (by rw [((HM8.out).rows qn hqM).2.2]; exact hfm) HCN.out)
        obtain ⟨A4, c4, e4⟩ := Kd.R_slice ((HM8.out).alts qn fn hqM hfm)
        rw [e4] at c0
        have HE4 := Aside0.mk e4
        have hqNz : (qn : Int) < (N : Int) := by omega
        clear hab hgb hgB hqM e2 e4 HOLD HCN
        have hbD := below_drew (Below.refl w8.heap.size w8)
        have HGA := Aside0.mk ((HG8.out).below hbD)
        have HRA := Aside0.mk (Kd.R_below HR8.out hbD)
        have HMA := Aside0.mk ((HM8.out).below hbD)
        have HRZA := Aside0.mk (Kd.R_below HRZ.out hbD)
        have HALT := Aside0.mk (show kA1.R 69 w8.drew w.heap.size (fun k => w.heap.size + 2 ≤ k) (.slice A4 ((M.getD qn []).getD fn []).length c4) ((M.getD qn []).getD fn []) from by rw [← HE4.out]; exact (HMA.out).alts qn fn (HQM2.out).1 (HQM2.out).2)
        have HUB2 := Aside0.mk (show ∀ kk, (Value.slice A4 ((M.getD qn []).getD fn []).length c4).ownBlock = some kk → kk < w7.heap.size from by rw [← HE4.out]; exact HUB.out)
        have HABD := Aside0.mk (blk_below HAB.out hbD)
        have HGBD := Aside0.mk (blk_below HGB.out hbD)
        have HRD := Aside0.mk (pw_cell_below hbD r0)
        have HCD := Aside0.mk (pw_cell_below hbD c0)
        have HBLG := Aside0.mk (types_ne (HGA.out).l HGBD.out (by decide))
        have HMAdd := Aside0.mk (fun v5 w5 h1 h2 h3 => (HMA.out).add (W1 := w5) (HQM2.out).1 (HQM2.out).2 ys v5 h1 h2 h3)
        rw [HE4.out] at HMAdd
        have HLEN := Aside0.mk (show ((M.getD qn []).getD fn []).length + 1 = ((M.getD qn []).getD fn [] ++ [ys]).length from by simp)
        clear hbD HUB HAB HGB
        generalize hgg0 : gs.getD qn 0 = g at *
        clear hgg0
        generalize hll : ((M.getD qn []).getD fn []).length = len at *
        have HLL := Aside0.mk hll
        clear hll
        go_upto_region 35 with (fail)
        refine wp_region_noPanic ?_
        refine start_ (n := 19) (S := fun w' => w'.cell? ⟨w.heap.size, 2, none⟩ = some (.slice (some ⟨ab, 0, none⟩) N c2) ∧ w'.cell? ⟨ab, qn, none⟩ = some (.slice (some ⟨g, 0, none⟩) wd.length wd.length) ∧ w'.cell? ⟨g, fn, none⟩ = some (.slice A4 len c4)) (ds := [18]) #[false, false, false, false, false, false, false, false, false, false, false, false, false, false, false, false, false, false, false] (by kernel_rfl) rfl rfl ⟨pw_cell_below (below_drew (Below.refl _ _)) k2, HRD.out, HCD.out⟩ (fun hHeld => ?_)
        refine with_tabW tab26 bits26 (fun HT_ HW_ => ?_)
        clear k0 k1 k2 k3 r0 c0 f0
        refine take_ (i := 0) (N := some 168) (v := ?_) (a' := ?_) #[true, false, false, false, false, false, false, false, false, false, false, false, false, false, false, false, false, false, false] rfl rfl (take_ofW HT_.out HW_.out (by kernel_rfl)) (fun _ _ _ h => h) (Or.inl ⟨by rfl, ?_⟩) hHeld ?_ ?_
        rotate_left
        · rintro w' ⟨s0, s1, s2⟩
          go_simp
          with_reducible rfl
        rotate_left
        · simp only [Act.put, List.setIfInBounds_toArray, List.set_cons_zero, List.set_cons_succ]
          rfl
        refine take_ (i := 1) (N := some 169) (v := ?_) (a' := ?_) #[true, true, false, false, false, false, false, false, false, false, false, false, false, false, false, false, false, false, false] rfl rfl (take_ofW HT_.out HW_.out (by kernel_rfl)) (fun _ _ _ h => h) (Or.inl ⟨by rfl, ?_⟩) hHeld ?_ ?_
        rotate_left
        · rintro w' ⟨s0, s1, s2⟩
          go_simp
          with_reducible rfl
        rotate_left
        · simp only [Act.put, List.setIfInBounds_toArray, List.set_cons_zero, List.set_cons_succ]
          rfl
        refine take_ (i := 2) (N := some 170) (v := ?_) (a' := ?_) #[true, true, true, false, false, false, false, false, false, false, false, false, false, false, false, false, false, false, false] rfl rfl (take_ofW HT_.out HW_.out (by kernel_rfl)) (fun _ _ _ h => h) (Or.inl ⟨by rfl, ?_⟩) hHeld ?_ ?_
        rotate_left
        · rintro w' ⟨s0, s1, s2⟩
          go_simp
          with_reducible rfl
        rotate_left
        · simp only [Act.put, List.setIfInBounds_toArray, List.set_cons_zero, List.set_cons_succ]
          rfl
        refine take_ (i := 3) (N := some 171) (v := ?_) (a' := ?_) #[true, true, true, true, false, false, false, false, false, false, false, false, false, false, false, false, false, false, false] rfl rfl (take_ofW HT_.out HW_.out (by kernel_rfl)) (fun _ _ _ h => h) (Or.inl ⟨by rfl, ?_⟩) hHeld ?_ ?_
        rotate_left
        · rintro w' ⟨s0, s1, s2⟩
          go_simp
          with_reducible rfl
        rotate_left
        · simp only [Act.put, List.setIfInBounds_toArray, List.set_cons_zero, List.set_cons_succ]
          rfl
        refine take_ (i := 4) (N := some 172) (v := ?_) (a' := ?_) #[true, true, true, true, true, false, false, false, false, false, false, false, false, false, false, false, false, false, false] rfl rfl (take_ofW HT_.out HW_.out (by kernel_rfl)) (fun _ _ _ h => h) (Or.inl ⟨by rfl, ?_⟩) hHeld ?_ ?_
        rotate_left
        · rintro w' ⟨s0, s1, s2⟩
          go_simp
          with_reducible rfl
        rotate_left
        · simp only [Act.put, List.setIfInBounds_toArray, List.set_cons_zero, List.set_cons_succ]
          rfl
        refine take_ (i := 5) (N := some 173) (v := ?_) (a' := ?_) #[true, true, true, true, true, true, false, false, false, false, false, false, false, false, false, false, false, false, false] rfl rfl (take_ofW HT_.out HW_.out (by kernel_rfl)) (fun _ _ _ h => h) (Or.inl ⟨by rfl, ?_⟩) hHeld ?_ ?_
        rotate_left
        · rintro w' ⟨s0, s1, s2⟩
          go_simp
          with_reducible rfl
        rotate_left
        · simp only [Act.put, List.setIfInBounds_toArray, List.set_cons_zero, List.set_cons_succ]
          rfl
        refine take_ (i := 6) (N := some 174) (v := ?_) (a' := ?_) #[true, true, true, true, true, true, true, false, false, false, false, false, false, false, false, false, false, false, false] rfl rfl (take_ofW HT_.out HW_.out (by kernel_rfl)) (fun _ _ _ h => h) (Or.inl ⟨by rfl, ?_⟩) hHeld ?_ ?_
        rotate_left
        · rintro w' ⟨s0, s1, s2⟩
          go_simp
          with_reducible rfl
        rotate_left
        · simp only [Act.put, List.setIfInBounds_toArray, List.set_cons_zero, List.set_cons_succ]
          rfl
        refine take_ (i := 7) (N := some 175) (v := ?_) (a' := ?_) #[true, true, true, true, true, true, true, true, false, false, false, false, false, false, false, false, false, false, false] rfl rfl (take_ofW HT_.out HW_.out (by kernel_rfl)) (fun _ _ _ h => h) (Or.inl ⟨by rfl, ?_⟩) hHeld ?_ ?_
        rotate_left
        · rintro w' ⟨s0, s1, s2⟩
          go_simp
          with_reducible rfl
        rotate_left
        · simp only [Act.put, List.setIfInBounds_toArray, List.set_cons_zero, List.set_cons_succ]
          rfl
        refine take_ (i := 8) (N := some 176) (v := ?_) (a' := ?_) #[true, true, true, true, true, true, true, true, true, false, false, false, false, false, false, false, false, false, false] rfl rfl (take_ofW HT_.out HW_.out (by kernel_rfl)) (fun _ _ _ h => h) (Or.inl ⟨by rfl, ?_⟩) hHeld ?_ ?_
        rotate_left
        · rintro w' ⟨s0, s1, s2⟩
          go_simp
          with_reducible rfl
        rotate_left
        · simp only [Act.put, List.setIfInBounds_toArray, List.set_cons_zero, List.set_cons_succ]
          rfl
        refine take_ (i := 9) (N := some 177) (v := ?_) (a' := ?_) #[true, true, true, true, true, true, true, true, true, true, false, false, false, false, false, false, false, false, false] rfl rfl (take_ofW HT_.out HW_.out (by kernel_rfl)) (fun _ _ _ h => h) (Or.inl ⟨by rfl, ?_⟩) hHeld ?_ ?_
        rotate_left
        · rintro w' ⟨s0, s1, s2⟩
          go_simp
          with_reducible rfl
        rotate_left
        · simp only [Act.put, List.setIfInBounds_toArray, List.set_cons_zero, List.set_cons_succ]
          rfl
        refine take_ (i := 10) (N := some 178) (v := ?_) (a' := ?_) #[true, true, true, true, true, true, true, true, true, true, true, false, false, false, false, false, false, false, false] rfl rfl (take_ofW HT_.out HW_.out (by kernel_rfl)) (fun _ _ _ h => h) (Or.inl ⟨by rfl, ?_⟩) hHeld ?_ ?_
        rotate_left
        · rintro w' ⟨s0, s1, s2⟩
          go_simp
          with_reducible rfl
        rotate_left
        · simp only [Act.put, List.setIfInBounds_toArray, List.set_cons_zero, List.set_cons_succ]
          rfl
        refine take_ (i := 11) (N := some 179) (v := ?_) (a' := ?_) #[true, true, true, true, true, true, true, true, true, true, true, true, false, false, false, false, false, false, false] rfl rfl (take_ofW HT_.out HW_.out (by kernel_rfl)) (fun _ _ _ h => h) (Or.inl ⟨by rfl, ?_⟩) hHeld ?_ ?_
        rotate_left
        · rintro w' ⟨s0, s1, s2⟩
          go_simp
          with_reducible rfl
        rotate_left
        · simp only [Act.put, List.setIfInBounds_toArray, List.set_cons_zero, List.set_cons_succ]
          rfl
        refine take_ (i := 12) (N := some 180) (v := ?_) (a' := ?_) #[true, true, true, true, true, true, true, true, true, true, true, true, true, false, false, false, false, false, false] rfl rfl (take_ofW HT_.out HW_.out (by kernel_rfl)) (fun _ _ _ h => h) (Or.inl ⟨by rfl, ?_⟩) hHeld ?_ ?_
        rotate_left
        · rintro w' ⟨s0, s1, s2⟩
          go_simp
          with_reducible rfl
        rotate_left
        · simp only [Act.put, List.setIfInBounds_toArray, List.set_cons_zero, List.set_cons_succ]
          rfl
        refine take_ (i := 13) (N := some 181) (v := ?_) (a' := ?_) #[true, true, true, true, true, true, true, true, true, true, true, true, true, true, false, false, false, false, false] rfl rfl (take_ofW HT_.out HW_.out (by kernel_rfl)) (fun _ _ _ h => h) (Or.inl ⟨by rfl, ?_⟩) hHeld ?_ ?_
        rotate_left
        · rintro w' ⟨s0, s1, s2⟩
          go_simp
          with_reducible rfl
        rotate_left
        · simp only [Act.put, List.setIfInBounds_toArray, List.set_cons_zero, List.set_cons_succ]
          rfl
        refine take_ (i := 14) (N := some 182) (v := ?_) (a' := ?_) #[true, true, true, true, true, true, true, true, true, true, true, true, true, true, true, false, false, false, false] rfl rfl (take_ofW HT_.out HW_.out (by kernel_rfl)) (fun _ _ _ h => h) (Or.inl ⟨by rfl, ?_⟩) hHeld ?_ ?_
        rotate_left
        · rintro w' ⟨s0, s1, s2⟩
          go_simp
          with_reducible rfl
        rotate_left
        · simp only [Act.put, List.setIfInBounds_toArray, List.set_cons_zero, List.set_cons_succ]
          rfl
        refine one_ (i := 15) (N := some 183) #[true, true, true, true, true, true, true, true, true, true, true, true, true, true, true, true, false, false, false] rfl rfl (one_of HT_.out (by kernel_rfl)) (by decide) (fun K hK => ?_)
        refine value_ (w1 := ?_) (v := ?_) (by rfl) rfl ?_ ?_
        rotate_left 2
        · go_simp
          constructor
          · rfl
          · rfl
        refine hK.out _ _ ⟨pw_cell_below (below_alloc (Below.refl _ _) _) hHeld.1, pw_cell_below (below_alloc (Below.refl _ _) _) hHeld.2.1, pw_cell_below (below_alloc (Below.refl _ _) _) hHeld.2.2⟩ (fun hHeld => ?_)
        clear hK K
        refine norm_ (a' := ?_) ?_ ?_
        rotate_left
        · show Act.put _ (some 183) _ = _
          simp only [Act.put, List.setIfInBounds_toArray, List.set_cons_zero, List.set_cons_succ]
          rfl
        refine one_ (i := 16) (N := some 184) #[true, true, true, true, true, true, true, true, true, true, true, true, true, true, true, true, true, false, false] rfl rfl (one_of HT_.out (by kernel_rfl)) (by decide) (fun K hK => ?_)
        refine Kd.R_append_step kA1 (w0 := w) (W := w8.drew) w.heap.size (by rfl) (.tmp 181) (.tmp 183) 66 69 (.slice none 0 0) 24 rfl Tryz.underlying66 Q.info69 rfl (show 0 < 1 by decide) (by decide) (.slice A4 len c4) ((M.getD qn []).getD fn []) ys [.slice A3 ys.length c3] (fun k => w.heap.size + 2 ≤ k) (fun k => w7.heap.size ≤ k) (by rfl) (by rfl) ⟨_, rfl, HRZA.out⟩ (fun k hk => ⟨by have := (H78.out).1; show w.heap.size + 2 ≤ k; omega, fun e => by have := HUB2.out k e.symm; have hk' : w7.heap.size ≤ k := hk; omega⟩) (fun k hk => by have := H78.out; have hk' : w8.heap.size ≤ k := hk; show w.heap.size + 2 ≤ k; omega) HALT.out (HGA.out).g.hb (HGA.out).g.hb.size (by rw [HLL.out]; have := HLM.out; omega) ?_
        intro v5 w5 ho5 hb5 hg5 hat5
        have HM9 := Aside0.mk (HMAdd.out v5 w5 ho5 hg5 hat5)
        obtain ⟨A5, c5, e5⟩ := Kd.R_slice ho5
        rw [← HLEN.out] at e5
        subst e5
        have HG9 := Aside0.mk ((HGA.out).app HALT.out (by decide) hb5 hg5)
        have HR9 := Aside0.mk (R_grown9 HRA.out HALT.out (by decide) (fun _ h => by cases h) hg5)
        have hneA : some ab ≠ (Value.slice A4 len c4).ownBlock := (fun hh => by obtain ⟨⟨cc, hcc⟩, _⟩ := ownBlock_typed HALT.out hh.symm; exact types_ne HABD.out hcc (by decide) rfl)
        have hneG : some g ≠ (Value.slice A4 len c4).ownBlock := (fun hh => by obtain ⟨⟨cc, hcc⟩, _⟩ := ownBlock_typed HALT.out hh.symm; exact types_ne HGBD.out hcc (by decide) rfl)
        have nr := Go.Proofs.YtbmcigakiibncaaGreatDoorW.PrintWords.cell_grown hg5 HRD.out hneA
        have nc := Go.Proofs.YtbmcigakiibncaaGreatDoorW.PrintWords.cell_grown hg5 HCD.out hneG
        have HGB9 := Aside0.mk (blk_grown HGBD.out hg5 hneG)
        have nf := blk_frozen HGB9.out fn
        obtain ⟨n0, n1, n2, n3⟩ := (HG9.out).g.cells
        clear hneA hneG ho5 hb5 hg5 hat5 n0 n1 n3
        refine hK.out _ _ ⟨n2, nr, nc⟩ (fun hHeld => ?_)
        clear hK K
        refine norm_ (a' := ?_) ?_ ?_
        rotate_left
        · show Act.put _ (some 184) _ = _
          simp only [Act.put, List.setIfInBounds_toArray, List.set_cons_zero, List.set_cons_succ]
          rfl
        refine take_ (i := 17) (N := some 185) (v := ?_) (a' := ?_) #[true, true, true, true, true, true, true, true, true, true, true, true, true, true, true, true, true, true, false] rfl rfl (take_ofW HT_.out HW_.out (by kernel_rfl)) (fun _ _ _ h => h) (Or.inl ⟨by rfl, ?_⟩) hHeld ?_ ?_
        rotate_left
        · rintro w' ⟨s0, s1, s2⟩
          go_simp
          with_reducible rfl
        rotate_left
        · simp only [Act.put, List.setIfInBounds_toArray, List.set_cons_zero, List.set_cons_succ]
          rfl
        refine last_ (i := 18) (N := none) #[true, true, true, true, true, true, true, true, true, true, true, true, true, true, true, true, true, true, true] rfl rfl (one_of HT_.out (by kernel_rfl)) (by decide) (fun K hK => ?_)
        refine skip_ (w1 := ?_) (by rfl) rfl ?_ ?_
        rotate_left
        · go_simp
          rfl
        refine hK.out _ _ ?_
        clear hK K
        refine done_ (done_of HT_.out (by kernel_rfl)) ?_
        refine NoPanic.normal ?_
        clear n2 nr nc nf hHeld
        go_wp2
        go_roundg (n - (k + 1))
        case measure => have := HLT.out; omega
        case rel => exact ⟨k + 1, qm + fn, addAlt M qn fn ys, gs, _, HLT.out, Nat.le_refl _, by rw [HKZ.out], rfl, ⟨(HG9.out).far HGBB.out HBLG.out _⟩, ⟨R_other HR9.out g (fun x => by obtain ⟨⟨cc, hcc⟩, _⟩ := ownBlock_typed HR9.out x; exact types_ne hcc HGB9.out (by decide) rfl) (fun _ h => by cases h) (fun kk hkk _ => Below.heap_setCell _ _ _ kk hkk)⟩, HM9, ⟨by rw [addAlt_len]; exact HML.out⟩, HSTEP2, HLA2, HCN2⟩
      · have hqM : ¬ qn < M.length := by rw [HML.out]; exact hqN
        have HSTEP2 := Aside0.mk (show getV t = (gstep states wd.length (((L.drop 2).take n).drop (k + 1)) (qm + fn) M).map fun M => (wd.map valW, st, M) by rw [HSTEP.out, if_neg (by omega)])
        clear hqM
        go_wp2
        go_roundg (n - (k + 1))
        case measure => have := HLT.out; omega
        case rel => exact ⟨k + 1, qm + fn, M, gs, uu, HLT.out, Nat.le_refl _, by rw [HKZ.out], rfl, HG8, HR8, HM8, HML, HSTEP2, HLA2, ⟨fun a b => Nat.le_succ_of_le (HCN.out a b)⟩⟩
    · obtain rfl : k = n := by omega
      have HVV := Aside0.mk (show getV t = some (wd.map valW, st, M) by rw [HV.out, List.drop_eq_nil_of_le (by rw [List.length_take]; omega)]; rfl)
      clear HV hk hgg hlt
      go_wp2
      exact hK.out _ _ _ _ _ _ _ _ _ _ _ _ _ _ _ _ _ _ _ _ _ _ _ _ _ _ _ _ _ _ _ _ _ _ _ _ _ _ _ _ _ _ _ _ _ _ _ _ _ _ _ _ _ _ _ _ _ _ _ _ _ _ _ _ _ _ _ _ _ _ _ _ _ _ _ _ _ _ _ _ _ _ _ _ _ _ _ _ _ _ _ _ _ _ _ _ M gs uu HG.out HR.out HMM.out HML.out HVV.out
end Go.Proofs.YtbmcigakiibncaaGreatDoor.H
namespace Go.Proofs.YtbmcigakiibncaaGreatDoor.H
open Go.RowKit Go.Proofs.YtbmcigakiibncaaGreatDoorW.PrintWords Go.Proofs.YtbmcigakiibncaaGreatDoorW.PrintLast Go.Proofs.YtbmcigakiibncaaGreatDoorW.PrintMore
set_option linter.unusedVariables false
set_option linter.unusedSimpArgs false
set_option maxHeartbeats 8000000 in
set_option maxRecDepth 100000 in
theorem get_calls (t : ByteArray) (w : World) (hm : MX w) :
    Calls Tryz.prog 26 #[.string t] w (GetE t w) := by
  have hmf := run_mkfun9
  have HM := Aside0.mk hm
  have HG := Aside0.mk (GH.start w)
  clear hm
  go_enter_defers Tryz.func26, Tryz.ntmps26
  go_upto_region 1 with (fail)
  generalize ((w.alloc (.cells #[.slice none 0 0, .int .i64 0, .slice none 0 0] 25)).alloc (.cells #[.int .i64 0] 29)) = W1 at *
  cases q1 : decide ((t.size : Int) > 65536) with
  | true =>
    obtain ⟨c0, c1, c2, c3⟩ := (HG.out).cells
    obtain ⟨f0, f1, f2, f3⟩ := (HG.out).frozen
    have HR := Aside0.mk (show getR t = (3, [], 0, []) by unfold getR; rw [if_pos (by have := of_decide_eq_true q1; omega)])
    have HQ := Aside0.mk ((((HG.out).set0 (.slice none 0 0)).set1 (.int .i64 0)).set2 (.slice none 0 0))
    go_wp2
    exact get_ret0 HR.out ((HQ.out).hb.setCell (p := ⟨w.heap.size + 1, 0, none⟩) (Nat.le_succ _) _) (blk_far (HQ.out).ha (by show w.heap.size ≠ w.heap.size + 1; omega) _) (blk_set (HQ.out).he 0 _) _ rfl rfl
  | false =>
  have hsz : t.size ≤ 65536 := by have := of_decide_eq_false q1; omega
  have HSZ := Aside0.mk hsz
  have HSP := Aside0.mk (split_calls t 10 W1 (by omega) ((HM.out).below (HG.out).hb))
  clear q1
  go_wp2_with fail
  refine (HSP.out).mono ?_
  rintro E w2 ⟨rfl, hw⟩
  have hb := below_alloc (Below.refl W1.heap.size W1) (.cells ((chunks t 10).map Value.string).toArray 9)
  have hbn := blk_new W1 (.cells ((chunks t 10).map Value.string).toArray 9)
  rw [← hw] at hb hbn
  have HG2 := Aside0.mk (GL.mk ((HG.out).below hb) hbn (by have := blk_lt (HG.out).he; omega))
  have HLS := Aside0.mk (show (chunks t 10).length ≤ 65537 from by have := chunks_short t 10; omega)
  have HV1 := Aside0.mk (fun h => getV_short (t := t) h)
  have HV2 := Aside0.mk (fun h => getV_end (t := t) h)
  have HV3 := Aside0.mk (fun h => getV_first (t := t) h)
  have HV4 := Aside0.mk (fun i hi h => getV_rank (t := t) (i := i) hi h)
  have HV5 := Aside0.mk (fun h => getV_second (t := t) h)
  have HV6 := Aside0.mk (fun h => getV_sec (t := t) h)
  have HCS := Aside0.mk (fun i => chunk_size t 10 i)
  clear hw hb hbn HG HSP
  generalize hLL : chunks t 10 = L at *
  generalize W1.heap.size = bl at *
  cases q2 : decide ((L.length : Int) < 3) with
  | true =>
    have HN := Aside0.mk (HV1.out (by have := of_decide_eq_true q2; omega))
    go_wp2
    exact get_panic (getR_bad HSZ.out HN.out) (HG2.out).g _ rfl rfl
  | false =>
  have hl3 : 3 ≤ L.length := by have := of_decide_eq_false q2; omega
  have HL3 := Aside0.mk hl3
  have hk := strs_cell (HG2.out).l (show L.length - 1 < L.length by omega)
  have hk0 := strs_cell (HG2.out).l (show 0 < L.length by omega)
  have HLE := Aside0.mk (HV2.out)
  clear HV2
  generalize hle : L.getD (L.length - 1) ByteArray.empty = le at *
  have HLEE := Aside0.mk hle
  generalize hs0 : L.getD 0 ByteArray.empty = s0 at *
  have HS0 := Aside0.mk hs0
  have HS0Z := Aside0.mk (show s0.size ≤ t.size by rw [← hs0]; exact HCS.out 0)
  clear hle hs0
  have hz2 : IntKind.i64.wrap ((L.length : Int) - 1) = (L.length : Int) - 1 := by have := HLS.out; simp [IntKind.wrap, IntKind.bits, IntKind.signed]; omega
  cases q3 : le.toList.isEmpty with
  | false =>
    have HN := Aside0.mk (HLE.out (fun e => by rw [e, Lib.toList_data] at q3; revert q3; decide))
    go_wp2
    exact get_panic (getR_bad HSZ.out HN.out) (HG2.out).g _ rfl rfl
  | true =>
    have HWO := Aside0.mk (wordsB_calls s0 sRanks w2 (by have := HS0Z.out; omega) ((HM.out).below (HG2.out).g.hb))
    go_wp2_with fail
    refine (HWO.out).mono ?_
    rintro E w3 ⟨hb, ⟨hne, rfl⟩ | ⟨hhd, o, rfl, ho, hws⟩⟩
    · have HN := Aside0.mk (HV3.out hne)
      have HG3 := Aside0.mk ((HG2.out).below hb)
      unfold pbad
      go_wp2
      exact get_panic (getR_bad HSZ.out HN.out) (HG3.out).g _ rfl rfl
    · have HG3 := Aside0.mk ((HG2.out).below hb)
      have HWS := Aside0.mk hws
      have HO := Aside0.mk ho
      have HHD := Aside0.mk hhd
      have HBW := Aside0.mk (show w.heap.size + 2 ≤ w2.heap.size from by have := blk_lt (HG2.out).l; have := (HG2.out).hbl; omega)
      have HLEM := Aside0.mk (show le = ByteArray.empty from string_inj (by rw [Lib.toList_data, Lib.toList_data]; rw [Lib.toList_data] at q3; rw [List.isEmpty_iff.1 q3]; rfl))
      clear hb hws ho hhd hk hk0 hz2 HG2 HWO q2 q3
      generalize w2.heap.size = bw at *
      generalize hws0 : chunks s0 32 = ws at *
      generalize hwd : ws.drop 1 = wd at *
      have HWZ := Aside0.mk (show ∀ i, (wd.getD i ByteArray.empty).size ≤ s0.size from fun i => by
        have h1 := chunk_size s0 32 (1 + i)
        rw [hws0] at h1
        rw [← hwd]
        rw [show (ws.drop 1).getD i ByteArray.empty = ws.getD (1 + i) ByteArray.empty by simp [List.getD_eq_getElem?_getD, List.getElem?_drop, Nat.add_comm]]
        exact h1)
      have HWD := Aside0.mk hwd
      have HWS0 := Aside0.mk hws0
      have HWL := Aside0.mk (show wd.length ≤ 65536 from by
        have h1 := chunks_short s0 32
        rw [hws0] at h1
        rw [← hwd, List.length_drop]
        have := HS0Z.out; have := HSZ.out
        omega)
      clear hwd hws0
      go_wp2
      go_loopg [47] wd.length (fun gg v47 wi => ∃ (i : Nat) (A : Option Addr) (c : Nat), i ≤ wd.length ∧ wd.length - i ≤ gg ∧ v47 = .int .i64 i ∧ Aside0 (GL w wi (.slice A i c) (.int .i64 0) (.slice none 0 0) bl L) ∧ Aside0 (wi.heap[bw]? = some (.cells (ws.map Value.string).toArray 9 (0, 0))) ∧ Aside0 (Kd.R (Kd.int .i64) 3 wi w.heap.size (fun k => w.heap.size + 2 ≤ k) (.slice A i c) ((wd.take i).map valW)) ∧ Aside0 (∀ j, j < i → okW (wd.getD j ByteArray.empty) = true))
      case atStart => exact ⟨0, none, 0, Nat.zero_le _, Nat.le_refl _, rfl, HG3, HWS, ⟨Kd.R_nil _ _ _ _ _⟩, ⟨fun j hj => absurd hj (Nat.not_lt_zero _)⟩⟩
      case round =>
        clear HG3 HWS
        obtain ⟨i, A, c, hi, hgg, rfl, HG4, HWB, HR, HOK⟩ := hrel
        by_cases hlt : i < wd.length
        · have hltz : (i : Int) < (wd.length : Int) := by omega
          have hk := words_cell (HWB.out) (show i < (ws.drop 1).length by rw [HWD.out]; exact hlt) (by rw [HWD.out]; exact HO.out)
          rw [HWD.out] at hk
          have HS1Z := Aside0.mk (HWZ.out i)
          have HS1B := Aside0.mk (HV4.out i)
          generalize hs1 : wd.getD i ByteArray.empty = s1 at *
          have HS1 := Aside0.mk hs1
          clear hs1
          go_upto_region 10 with (fail)
          clear hk
          have HN := Aside0.mk (number_calls s1 wr.drew (by have := HS1Z.out; have := HS0Z.out; have := HSZ.out; omega))
          obtain ⟨k0, k1, k2, k3⟩ := (HG4.out).g.cells
          cases q4 : okW s1 with
          | false =>
            have HX := Aside0.mk (HS1B.out hlt q4)
            have HNE := Aside0.mk (show numE s1.data.toList = pbad by unfold numE; rw [show numOk s1.data.toList = false from q4]; rfl)
            rw [HNE.out] at HN
            have HPX := Aside0.mk (fun w4 (hb : Below wr.drew.heap.size wr.drew w4) => (HG4.out).below (below_then (below_drew (Below.refl wr.heap.size wr)) (below_drew (Below.refl wr.heap.size wr)).size hb))
            refine wp_region_any (by kernel_rfl) ?_
            change wpAny _ _ _ _ _ _ _ (World.drew _)
            refine wpAny_ready (rs := [0, 2]) (by kernel_rfl) (by simp) ?_
            refine AllReady.cons rfl (fun K hK => ?_) ?_
            · go_simp
              refine hK _ _ ?_
              clear hK K
              refine wpAny_ready (rs := [1, 2]) (by kernel_rfl) (by simp) ?_
              refine AllReady.cons rfl (fun K hK => ?_) ?_
              · go_simp
                refine hK _ _ ?_
                clear hK K
                refine wpAny_ready (rs := [2]) (by kernel_rfl) (by simp) ?_
                refine AllReady.cons rfl (fun K hK => ?_) ?_
                · go_simp
                  refine hK _ _ ?_
                  clear hK K
                  refine wpAny_ready (rs := [3]) (by kernel_rfl) (by simp) ?_
                  refine AllReady.cons rfl (fun K hK => ?_) ?_
                  · go_simp
                    go_wp2_with (go_at_call 61; refine (HN.out).mono ?_; rintro E w4 ⟨rfl, hb⟩; exact get_panic (getR_bad HSZ.out HX.out) ((HPX.out) _ hb).g _ rfl rfl)
                  exact AllReady.nil
                exact AllReady.nil
              refine AllReady.cons rfl (fun K hK => ?_) ?_
              · go_simp
                refine hK _ _ ?_
                clear hK K
                refine wpAny_ready (rs := [1, 3]) (by kernel_rfl) (by simp) ?_
                refine AllReady.cons rfl (fun K hK => ?_) ?_
                · go_simp
                  refine hK _ _ ?_
                  clear hK K
                  refine wpAny_ready (rs := [3]) (by kernel_rfl) (by simp) ?_
                  refine AllReady.cons rfl (fun K hK => ?_) ?_
                  · go_simp
                    go_wp2_with (go_at_call 61; refine (HN.out).mono ?_; rintro E w4 ⟨rfl, hb⟩; exact get_panic (getR_bad HSZ.out HX.out) ((HPX.out) _ hb).g _ rfl rfl)
                  exact AllReady.nil
                refine AllReady.cons rfl (fun K hK => ?_) ?_
                · go_simp
                  go_wp2_with (go_at_call 61; refine (HN.out).mono ?_; rintro E w4 ⟨rfl, hb⟩; exact get_panic (getR_bad HSZ.out HX.out) ((HPX.out) _ hb).g _ rfl rfl)
                exact AllReady.nil
              exact AllReady.nil
            refine AllReady.cons rfl (fun K hK => ?_) ?_
            · go_simp
              refine hK _ _ ?_
              clear hK K
              refine wpAny_ready (rs := [0, 3]) (by kernel_rfl) (by simp) ?_
              refine AllReady.cons rfl (fun K hK => ?_) ?_
              · go_simp
                refine hK _ _ ?_
                clear hK K
                refine wpAny_ready (rs := [1, 3]) (by kernel_rfl) (by simp) ?_
                refine AllReady.cons rfl (fun K hK => ?_) ?_
                · go_simp
                  refine hK _ _ ?_
                  clear hK K
                  refine wpAny_ready (rs := [3]) (by kernel_rfl) (by simp) ?_
                  refine AllReady.cons rfl (fun K hK => ?_) ?_
                  · go_simp
                    go_wp2_with (go_at_call 61; refine (HN.out).mono ?_; rintro E w4 ⟨rfl, hb⟩; exact get_panic (getR_bad HSZ.out HX.out) ((HPX.out) _ hb).g _ rfl rfl)
                  exact AllReady.nil
                refine AllReady.cons rfl (fun K hK => ?_) ?_
                · go_simp
                  go_wp2_with (go_at_call 61; refine (HN.out).mono ?_; rintro E w4 ⟨rfl, hb⟩; exact get_panic (getR_bad HSZ.out HX.out) ((HPX.out) _ hb).g _ rfl rfl)
                exact AllReady.nil
              refine AllReady.cons rfl (fun K hK => ?_) ?_
              · go_simp
                go_wp2_with (go_at_call 61; refine (HN.out).mono ?_; rintro E w4 ⟨rfl, hb⟩; exact get_panic (getR_bad HSZ.out HX.out) ((HPX.out) _ hb).g _ rfl rfl)
              exact AllReady.nil
            exact AllReady.nil
          | true =>
            have HQ4 := Aside0.mk q4
            refine wp_region_noPanic ?_
            have HN2 := Aside0.mk (show numE s1.data.toList = .returned (.int .i64 (valW s1)) by unfold numE; rw [show numOk s1.data.toList = true from q4]; rfl)
            rw [HN2.out] at HN
            have HPX := Aside0.mk (fun w4 (hb : Below wr.drew.heap.size wr.drew w4) => below_then (below_drew (Below.refl wr.heap.size wr)) (below_drew (Below.refl wr.heap.size wr)).size hb)
            have HLT := Aside0.mk hlt
            have hlen : (((wd.take i).map valW).length + 1) * 8 ≤ 140737488355328 := by rw [List.length_map, List.length_take]; have := HWL.out; omega
            have HLEN := Aside0.mk (show ((wd.take i).map valW).length = i by rw [List.length_map, List.length_take]; omega)
            have HTK := Aside0.mk (show (wd.take i).map valW ++ [valW s1] = (wd.take (i + 1)).map valW by
              rw [List.take_add_one, List.map_append]
              congr 1
              have e : wd[i]? = some s1 := by rw [← HS1.out]; simp [List.getD_eq_getElem?_getD, hlt]
              rw [e]; rfl)
            have HLE1 := Aside0.mk (show ((wd.take (i + 1)).map valW).length = i + 1 by rw [List.length_map, List.length_take]; omega)
            go_region_law (first
              | (go_simp; go_at_call 61; refine (HN.out).mono ?_; rintro E w4 ⟨rfl, hb⟩; have HB4 := Aside0.mk ((HPX.out) w4 hb); clear hb; have HG5 := Aside0.mk ((HG4.out).below HB4.out); have HR5 := Aside0.mk (Kd.R_below HR.out HB4.out); have HWB5 := Aside0.mk (blk_below HWB.out HB4.out); obtain ⟨m0, m1, m2, m3⟩ := (HG5.out).g.cells; have l0 := pw_cell_below (below_alloc (Below.refl w4.heap.size w4) (.cells #[.int .i64 (valW s1)] 3)) m0)
              | (refine Kd.R_append_step (Kd.int .i64) (w0 := w) (W := w4) w.heap.size (by simp [Region.wanted]) (.tmp 52) (.tmp 55) 22 3 (.int .i64 0) 8 rfl Tryz.underlying22 Q.info3 rfl (by decide) (by omega) (.slice A i c) ((wd.take i).map valW) (valW s1) [.int .i64 (valW s1)] (fun k => w.heap.size + 2 ≤ k) (fun _ => False) (by rfl) (by rfl) rfl (fun _ hk => hk.elim) (fun k hk => by have := blk_lt (HG5.out).l; have := (HG5.out).hbl; omega) HR5.out (HG5.out).g.hb (HG5.out).g.hb.size hlen ?_; intro v5 w5 ho5 hb5 hg5 hat5; rw [HTK.out] at ho5; (obtain ⟨A5, c5, e5⟩ := Kd.R_slice ho5); rw [HLE1.out] at e5; subst e5; have HR6 := Aside0.mk ho5; have HG6 := Aside0.mk ((HG5.out).app HR5.out (by decide) hb5 hg5); have HWB6 := Aside0.mk (blk_grown HWB5.out hg5 (fun hk => by obtain ⟨⟨cc, hcc⟩, _⟩ := ownBlock_typed HR5.out hk.symm; exact types_ne hcc HWB5.out (by decide) rfl)); clear ho5 hb5 hg5 hat5; obtain ⟨n0, n1, n2, n3⟩ := (HG6.out).g.cells; obtain ⟨g0, g1, g2, g3⟩ := (HG6.out).g.frozen)
              | fail)
            all_goals
              refine NoPanic.normal ?_
              go_wp2
              go_roundg (wd.length - (i + 1))
              case measure => have := HLT.out; omega
              case rel => exact ⟨i + 1, A5, c5, HLT.out, Nat.le_refl _, by rw [wr_id (x := (i : Int) + 1) (by omega) (by have := HLT.out; have := HWL.out; omega)]; rfl, ⟨(HG6.out).set0 _⟩, ⟨blk_far HWB6.out (by have := HBW.out; show bw ≠ w.heap.size; omega) _⟩, ⟨Kd.R_far HR6.out (p := ⟨w.heap.size, 0, none⟩) (fun k hk he => by have h0 : k = w.heap.size := he; omega) _⟩, ⟨fun j hj => by
                by_cases e : j = i
                · rw [e, HS1.out]; exact HQ4.out
                · exact HOK.out j (by omega)⟩⟩
        · obtain rfl : i = wd.length := by omega
          have HALL := Aside0.mk (show wd.all okW = true from List.all_eq_true.2 fun x hx => by
            obtain ⟨j, hj, hjx⟩ := List.mem_iff_getElem.1 hx
            have h1 := HOK.out j hj
            rw [List.getD_eq_getElem?_getD, List.getElem?_eq_getElem hj, hjx] at h1
            exact h1)
          rw [List.take_length] at HR
          clear hi hgg hlt HOK HWB HV4 HWZ
          have HN12 := Aside0.mk (Nat.lt_of_lt_of_le (show 1 < 3 by decide) HL3.out)
          have hk := strs_cell (HG4.out).l HN12.out
          have HS1Z := Aside0.mk (HCS.out 1)
          generalize hs1 : L.getD 1 ByteArray.empty = s1 at *
          have HS1 := Aside0.mk hs1
          have HWO := Aside0.mk (wordsB_calls s1 sStates wr (by have := HS1Z.out; have := HSZ.out; omega) ((HM.out).below (HG4.out).g.hb))
          clear hs1
          go_wp2_with fail
          refine (HWO.out).mono ?_
          rintro E w4 ⟨hb, ⟨hne, rfl⟩ | ⟨hhd, o2, rfl, ho, hws⟩⟩
          · have HN := Aside0.mk (HV5.out hne)
            have HG5 := Aside0.mk ((HG4.out).below hb)
            unfold pbad
            go_wp2
            exact get_panic (getR_bad HSZ.out HN.out) (HG5.out).g _ rfl rfl
          · have HG5 := Aside0.mk ((HG4.out).below hb)
            have HR5 := Aside0.mk (Kd.R_below HR.out hb)
            have HWS2 := Aside0.mk hws
            have HO2 := Aside0.mk ho
            have HHD2 := Aside0.mk hhd
            have HBW2 := Aside0.mk (show w.heap.size + 2 ≤ wr.heap.size from by have := blk_lt (HG4.out).l; have := (HG4.out).hbl; omega)
            have HWZ2 := Aside0.mk (show ∀ i, ((chunks s1 32).getD i ByteArray.empty).size ≤ 65536 from fun i => by have := chunk_size s1 32 i; have := HS1Z.out; have := HSZ.out; omega)
            clear hb hws ho hhd hk HG4 HR HWO HN12
            generalize wr.heap.size = bw2 at *
            generalize hws0 : chunks s1 32 = ws2 at *
            have HWS20 := Aside0.mk hws0
            clear hws0
            by_cases h3 : (ws2.drop 1).length = 3
            · obtain ⟨p, x1, x2, x3, rfl⟩ : ∃ p x1 x2 x3, ws2 = [p, x1, x2, x3] := by
                rw [List.length_drop] at h3
                match ws2, h3 with
                | [p, x1, x2, x3], _ => exact ⟨p, x1, x2, x3, rfl⟩
              obtain rfl : o2 = 1 := by have := HO2.out; simp at this; exact this
              have z1 : w4.cell? ⟨bw2, 1, none⟩ = some (.string x1) := (blk_cell HWS2.out 1).trans rfl
              have z2 : w4.cell? ⟨bw2, 2, none⟩ = some (.string x2) := (blk_cell HWS2.out 2).trans rfl
              have z3 : w4.cell? ⟨bw2, 3, none⟩ = some (.string x3) := (blk_cell HWS2.out 3).trans rfl
              have HX1Z := Aside0.mk (HWZ2.out 1)
              have HX3Z := Aside0.mk (HWZ2.out 3)
              have HSEC := Aside0.mk (show (secOk [x1, x2, x3] = false → getV t = none) from HV6.out)
              have HCE := Aside0.mk (show ∀ b : Bool, (x2.toList == [115, 116, 97, 114, 116]) = b → decide (x2 = sStart) = b from fun b hb => by
                have e : sStart.toList = [115, 116, 97, 114, 116] := by rw [Lib.toList_data]; rfl
                cases b with
                | true => exact decide_eq_true (string_inj (by rw [e]; exact hb))
                | false => exact decide_eq_false (string_ne (by rw [e]; exact hb)))
              cases q5 : (x2.toList == [115, 116, 97, 114, 116]) with
              | false =>
                have HN := Aside0.mk (HSEC.out (by show (decide (x2 = sStart) && okW x1 && okW x3) = false; rw [HCE.out _ q5]; rfl))
                go_wp2
                exact get_panic (getR_bad HSZ.out HN.out) (HG5.out).g _ rfl rfl
              | true =>
                have HX2 := Aside0.mk (HCE.out _ q5)
                have HN1 := Aside0.mk (number_calls x1 w4 (by have : x1.size ≤ 65536 := HX1Z.out; omega))
                go_wp2_with fail
                refine (HN1.out).mono ?_
                rintro E w5 ⟨rfl, hb⟩
                have HG6 := Aside0.mk ((HG5.out).below hb)
                have HR6 := Aside0.mk (Kd.R_below HR5.out hb)
                have HWS6 := Aside0.mk (blk_below HWS2.out hb)
                clear hb HG5 HR5 HWS2 z1 z2 z3 HN1 q5
                cases q6 : okW x1 with
                | false =>
                  have HN := Aside0.mk (HSEC.out (by show (decide (x2 = sStart) && okW x1 && okW x3) = false; rw [q6, HX2.out]; rfl))
                  rw [show numE x1.data.toList = pbad by unfold numE; rw [show numOk x1.data.toList = false from q6]; rfl]
                  unfold pbad
                  go_wp2
                  exact get_panic (getR_bad HSZ.out HN.out) (HG6.out).g _ rfl rfl
                | true =>
                rw [show numE x1.data.toList = .returned (.int .i64 (valW x1)) by unfold numE; rw [show numOk x1.data.toList = true from q6]; rfl]
                have HX1 := Aside0.mk q6
                have HN3 := Aside0.mk (number_calls x3 w5 (by have : x3.size ≤ 65536 := HX3Z.out; omega))
                have z3 : w5.cell? ⟨bw2, 3, none⟩ = some (.string x3) := (blk_cell HWS6.out 3).trans rfl
                clear q6
                go_wp2_with fail
                refine (HN3.out).mono ?_
                rintro E w6 ⟨rfl, hb⟩
                have HG7 := Aside0.mk ((HG6.out).below hb)
                have HR7 := Aside0.mk (Kd.R_below HR6.out hb)
                clear hb HG6 HR6 HWS6 z3 HN3
                cases q7 : okW x3 with
                | false =>
                  have HN := Aside0.mk (HSEC.out (by show (decide (x2 = sStart) && okW x1 && okW x3) = false; rw [q7, HX1.out, HX2.out]; rfl))
                  rw [show numE x3.data.toList = pbad by unfold numE; rw [show numOk x3.data.toList = false from q7]; rfl]
                  unfold pbad
                  go_wp2
                  exact get_panic (getR_bad HSZ.out HN.out) (HG7.out).g _ rfl rfl
                | true =>
                rw [show numE x3.data.toList = .returned (.int .i64 (valW x3)) by unfold numE; rw [show numOk x3.data.toList = true from q7]; rfl]
                have HX3 := Aside0.mk q7
                clear q7
                obtain ⟨k0, k1, k2, k3⟩ := (HG7.out).g.cells
                obtain ⟨f0, f1, f2, f3⟩ := (HG7.out).g.frozen
                go_upto_region 17 with (fail)
                have HG8 := Aside0.mk ((HG7.out).set1 (.int .i64 (valW x3)))
                have HR8 := Aside0.mk (Kd.R_far HR7.out (p := ⟨w.heap.size, 1, none⟩) (fun k hk he => by have h0 : k = w.heap.size := he; omega) (.int .i64 (valW x3)))
                generalize w6.setCell ⟨w.heap.size, 1, none⟩ (.int .i64 (valW x3)) = w7 at *
                clear HG7 HR7 k0 k1 k2 k3 f0 f1 f2 f3 HX1Z HX3Z HSEC HCE HV6 HWZ2
                have HST := Aside0.mk (num_nonneg HX1.out)
                generalize hst : valW x1 = states at *
                have HSTE := Aside0.mk hst
                clear hst
                have HV := Aside0.mk (getV_main hLL HL3.out (HLEE.out.trans HLEM.out) HS0.out HWS0.out HHD.out HWD.out HALL.out HS1.out HWS20.out HHD2.out (of_decide_eq_true HX2.out) HX1.out HX3.out)
                rw [HSTE.out] at HV
                clear HV1 HV3 HV5 HLE HLEE HLEM HS0 HS0Z HHD HWS0 HALL HS1Z HS1 HHD2 HWS20 HX2 HX3 HO2 HBW HBW2 hLL
                obtain ⟨N, hN⟩ : ∃ N : Nat, (if states < 7 then states else 7) = (N : Int) := ⟨(if states < 7 then states else 7).toNat, by have := HST.out; split <;> omega⟩
                have HN7 := Aside0.mk (show N ≤ 7 ∧ N = (min states 7).toNat from by split at hN <;> omega)
                have hmk : ∀ W : World, (Instr.makeSlice 65 (.int .i64 (wd.length : Int)) (.int .i64 (wd.length : Int))).run Tryz.prog W = .ok (.slice (some ⟨W.heap.size, 0, none⟩) wd.length wd.length) (W.alloc (.cells (madeCells #[.slice none 0 0] wd.length) 66)) := fun W => run_make_row' 65 66 (.slice none 0 0) 24 Tryz.underlying65 Q.info66 rfl .i64 .i64 wd.length (by have := HWL.out; omega) (by have := HWL.out; omega) W
                have hmin : min states 7 = (N : Int) := by have := (HN7.out).2; have := HST.out; omega
                go_wp2
                clear hmin
                go_loopg [85] N (fun gg v85 wi => ∃ (j : Nat) (A2 : Option Addr) (c2 : Nat) (gs : List Nat) (u : Nat → Nat → Value), j ≤ N ∧ N - j ≤ gg ∧ v85 = .int .i64 j ∧ Aside0 (GL w wi (.slice A wd.length c) (.int .i64 (valW x3)) (.slice A2 j c2) bl L) ∧ Aside0 (Kd.R (Kd.int .i64) 3 wi w.heap.size (fun k => w.heap.size + 2 ≤ k) (.slice A wd.length c) (wd.map valW)) ∧ Aside0 (MM w.heap.size (w.heap.size + 2) wi (.slice A2 j c2) (List.replicate j (List.replicate wd.length [])) wd.length gs u))
                case atStart => exact ⟨0, none, 0, [], _, Nat.zero_le _, Nat.le_refl _, rfl, HG8, HR8, ⟨MM.start _ _ _ _⟩⟩
                case round =>
                  clear HG8 HR8
                  obtain ⟨j, A2, c2, gs, u, hj, hgg, rfl, HG9, HR9, HMM⟩ := hrel
                  by_cases hlt : j < N
                  · have hltz : (j : Int) < (N : Int) := by omega
                    have HLT := Aside0.mk hlt
                    go_upto_region 19 with (fail)
                    obtain ⟨k0, k1, k2, k3⟩ := (HG9.out).g.cells
                    have hb1 := below_drew (Below.refl wr.heap.size wr)
                    have hb2 := below_alloc hb1 (.cells (madeCells #[.slice none 0 0] wd.length) 66)
                    have hnew := blk_new wr.drew (.cells (madeCells #[.slice none 0 0] wd.length) 66)
                    have m0 := pw_cell_below hb2 k0
                    have m2 := pw_cell_below hb2 k2
                    have HGA := Aside0.mk ((HG9.out).below hb2)
                    have HRA := Aside0.mk (Kd.R_below HR9.out hb2)
                    have HMA := Aside0.mk ((HMM.out).below hb2)
                    have q0_ := pw_cell_below (below_alloc (Below.refl wr.heap.size wr) (.cells (madeCells #[.slice none 0 0] wd.length) 66)) k0
                    have q2_ := pw_cell_below (below_alloc (Below.refl wr.heap.size wr) (.cells (madeCells #[.slice none 0 0] wd.length) 66)) k2
                    have l0 := pw_cell_below (below_alloc (Below.refl (wr.alloc (.cells (madeCells #[.slice none 0 0] wd.length) 66)).heap.size (wr.alloc (.cells (madeCells #[.slice none 0 0] wd.length) 66))) (.cells #[.slice (some ⟨wr.heap.size, 0, none⟩) wd.length wd.length] 65)) q0_
                    have l2 := pw_cell_below (below_alloc (Below.refl (wr.alloc (.cells (madeCells #[.slice none 0 0] wd.length) 66)).heap.size (wr.alloc (.cells (madeCells #[.slice none 0 0] wd.length) 66))) (.cells #[.slice (some ⟨wr.heap.size, 0, none⟩) wd.length wd.length] 65)) q2_
                    have HNEW := Aside0.mk (show (wr.drew.alloc (.cells (madeCells #[.slice none 0 0] wd.length) 66)).heap[wr.heap.size]? = some (.cells (Array.replicate wd.length (.slice none 0 0)) 66 (0, 0)) from by rw [← made_rep]; exact hnew)
                    have HGSL := Aside0.mk (show gs.length = j by rw [(HMM.out).len]; simp)
                    have HGLT := Aside0.mk (show ∀ q, q < (List.replicate j (List.replicate wd.length ([] : List (List Nd)))).length → gs.getD q 0 ≠ wr.heap.size from fun q hq => by have := blk_lt ((HMM.out).rows q hq).2.1; omega)
                    have HB2 := Aside0.mk (show w.heap.size + 2 ≤ wr.heap.size from by have := blk_lt (HG9.out).l; have := (HG9.out).hbl; omega)
                    clear hb1 hb2 hnew
                    refine wp_region_noPanic ?_
                    go_region_law (first
                      | (refine Kd.R_append_step (kRow wd.length) (w0 := w) (W := wr.drew.alloc (.cells (madeCells #[.slice none 0 0] wd.length) 66)) w.heap.size (by simp [Region.wanted]) (.tmp 88) (.tmp 93) 23 65 (.slice none 0 0) 24 rfl Tryz.underlying23 Q.info65 rfl (show 0 < 1 by decide) (by decide) (.slice A2 j c2) gs wr.heap.size [.slice (some ⟨wr.heap.size, 0, none⟩) wd.length wd.length] (fun k => w.heap.size + 2 ≤ k) (fun _ => False) (by rfl) (by show Value.slice (some ⟨wr.heap.size + 1, 0, none⟩) 1 1 = _; simp) rfl (fun _ hk => hk.elim) (fun k hk => by have := blk_lt (HGA.out).l; have := (HGA.out).hbl; omega) (HMA.out).row (HGA.out).g.hb (HGA.out).g.hb.size (by rw [HGSL.out]; have := (HN7.out).1; have := HLT.out; omega) ?_; intro v5 w5 ho5 hb5 hg5 hat5; have HMP := Aside0.mk ((HMA.out).push wr.heap.size HNEW.out HB2.out HGLT.out ho5 hg5); (obtain ⟨A5, c5, e5⟩ := Kd.R_slice ho5); rw [List.length_append, HGSL.out, List.length_singleton] at e5; subst e5; have HGP := Aside0.mk ((HGA.out).app (HMA.out).row (by decide) hb5 hg5); have HRP := Aside0.mk (R_grown9 HRA.out (HMA.out).row (by decide) (fun _ h => by cases h) hg5); clear ho5 hb5 hg5 hat5; obtain ⟨n0, n1, n2, n3⟩ := (HGP.out).g.cells; obtain ⟨g0, g1, g2, g3⟩ := (HGP.out).g.frozen)
                      | fail)
                    all_goals
                      refine NoPanic.normal ?_
                      go_wp2
                      go_roundg (N - (j + 1))
                      case measure => have := HLT.out; omega
                      case rel => exact ⟨j + 1, A5, c5, gs ++ [wr.heap.size], _, HLT.out, Nat.le_refl _, rfl, ⟨(HGP.out).set2 _⟩, ⟨Kd.R_far HRP.out (p := ⟨w.heap.size, 2, none⟩) (fun k hk he => by have h0 : k = w.heap.size := he; omega) _⟩, ⟨by rw [List.replicate_succ']; exact (HMP.out).far (by omega) _⟩⟩
                  · obtain rfl : N = j := by omega
                    clear hlt hj hgg hmk
                    rw [← (HN7.out).2] at HV
                    have hl3 := HL3.out
                    obtain ⟨n, hn⟩ : ∃ n, L.length = n + 3 := ⟨L.length - 3, by omega⟩
                    have HNL := Aside0.mk hn
                    have HLN := Aside0.mk (show n ≤ 65536 from by have := HLS.out; omega)
                    go_upto_region 22 with (fail)
                    rw [hn]
                    have hz1 : wrap64 ((n : Int) + 3 - 1) = (n : Int) + 2 := by rw [wr_id (by omega) (by have := HLN.out; omega)]; omega
                    have hz2 : (0 : Int) ≤ (n : Int) + 2 ∧ (n : Int) + 2 ≤ (n : Int) + 3 := by omega
                    have hz3 : max ((n : Int) + 2) 0 = (n : Int) + 2 := by omega
                    have hz4 : (2 : Int) ≤ (n : Int) + 2 := by omega
                    have hz5 : ((n : Int) + 2).toNat = n + 2 := by omega
                    go_wp2
                    have HV2 := Aside0.mk (show getV t = (gstep states wd.length ((L.drop 2).take n) (-1) (List.replicate N (List.replicate wd.length []))).map fun M => (wd.map valW, valW x3, M) from by have h0 := HV.out; rw [HNL.out] at h0; exact h0)
                    refine loop26 t w L wd n N bl _ A c A2 c2 (valW x3) states _ _ (List.replicate N (List.replicate wd.length [])) gs u _ _ _ _ _ _ _ _ _ _ _ _ _ _ _ _ _ _ _ _ _ _ _ _ _ _ _ _ _ _ _ _ _ _ _ _ _ _ _ _ _ _ _ _ _ _ _ _ _ _ _ _ _ _ _ _ _ _ _ _ _ _ _ _ _ _ _ _ _ _ _ _ _ _ _ _ _ _ _ _ _ _ _ _ _ _ _ _ _ _ _ _ _ _ _ _ _ _ _ _ _ _ _ _ _ _ _ _ _ _ _ _ _ _ _ _ _ _ _ _ _ _ _ _ _ _ _ _ _ _ _ _ _ _ _ _ _ _ _ _ _ _ _ _ _ _ _ _ _ _ _ _ _ _ _ _ _ _ _ _ _ _ _ _ _ _ _ _ _ _ _ _ _ _ _ _ _ _ _ _ _ _ _ _ _ HSZ HM HCS HWL HNL HLN HN7 HST ⟨List.length_replicate⟩ ⟨fun a b => by simp [List.getD_eq_getElem?_getD, List.getElem?_replicate]; split <;> simp [List.getElem?_replicate]; split <;> simp⟩ HG9 HR9 HMM HV2 ?_
                    clear HG9 HR9 HMM HV2 HV hz1 hz2 hz3 hz4 hz5
                    refine ⟨?_⟩
                    intro u9 u11 u12 u13 u14 u15 u16 u17 u18 u19 u20 u103 u104 u105 u106 u107 u108 u109 u110 u111 u112 u113 u114 u115 u116 u117 u118 u119 u120 u121 u122 u123 u124 u125 u126 u127 u128 u129 u130 u131 u132 u133 u134 u135 u136 u137 u138 u139 u140 u141 u142 u143 u144 u145 u146 u147 u148 u149 u150 u151 u152 u153 u154 u155 u156 u157 u158 u159 u160 u161 u162 u163 u164 u165 u166 u167 u168 u169 u170 u171 u172 u173 u174 u175 u176 u177 u178 u179 u180 u181 u182 u183 u184 u185 u186 W M gs uu hG hR hM hL hVV
                    have HG := Aside0.mk hG
                    have hrd := Kd.R_reads' hR
                    obtain ⟨A2', c2', e, hle, hCM⟩ := hM.reads (by have := HWL.out; omega)
                    injection e with e1 e2 e3
                    subst e1 e3
                    have HCK := Aside0.mk (acheckG_calls (wd.map valW) M (valW x3) A c A2 c2 W hrd.2.2 (by rw [List.length_map]; exact hrd.2.1) hCM)
                    have HR := Aside0.mk hR
                    have HMM := Aside0.mk hM
                    have HL := Aside0.mk hL
                    have HVV := Aside0.mk hVV
                    rw [List.length_map, hL] at HCK
                    obtain ⟨k0, k1, k2, k3⟩ := hG.g.cells
                    clear e2 hG hR hM hrd hle hCM hL hVV
                    cases hq : auB (wd.map valW) (valW x3) M with
                    | false =>
                      rw [chk_false hq] at HCK
                      have HRR := Aside0.mk (show getR t = (10, [], 0, []) by unfold getR; rw [if_neg (by have := HSZ.out; omega), HVV.out]; simp only; rw [if_neg (by rw [chk_false hq]; decide)])
                      clear hq
                      go_wp2_with fail
                      refine (HCK.out).mono ?_
                      rintro E W2 ⟨rfl, hb⟩
                      have HG2 := Aside0.mk ((HG.out).below hb)
                      clear hb k0 k1 k2 k3
                      obtain ⟨k0, k1, k2, k3⟩ := (HG2.out).g.cells
                      obtain ⟨f0, f1, f2, f3⟩ := (HG2.out).g.frozen
                      have HQ := Aside0.mk ((((HG2.out).g.set0 (.slice none 0 0)).set1 (.int .i64 0)).set2 (.slice none 0 0))
                      go_wp2
                      exact get_done (A1 := none) (A2 := none) (c1 := 0) (c2 := 0) (rk := []) (M := []) HRR.out ((HQ.out).hb.setCell (p := ⟨w.heap.size + 1, 0, none⟩) (Nat.le_succ _) _) (blk_far (HQ.out).ha (by show w.heap.size ≠ w.heap.size + 1; omega) _) (blk_set (HQ.out).he 0 _) ⟨rfl, by simp, fun h => absurd h (by simp)⟩ (Nat.le_refl _) ⟨rfl, by simp, fun h => absurd h (by simp)⟩ (Nat.le_refl _) _ rfl rfl
                    | true =>
                      rw [chk_true hq] at HCK
                      have HRR := Aside0.mk (show getR t = (0, wd.map valW, valW x3, M) by unfold getR; rw [if_neg (by have := HSZ.out; omega), HVV.out]; simp only; rw [if_pos (chk_true hq)])
                      clear hq
                      go_wp2_with fail
                      refine (HCK.out).mono ?_
                      rintro E W2 ⟨rfl, hb⟩
                      have HG2 := Aside0.mk ((HG.out).below hb)
                      have HR2 := Aside0.mk (Kd.R_below HR.out hb)
                      have HM2 := Aside0.mk ((HMM.out).below hb)
                      clear hb k0 k1 k2 k3
                      obtain ⟨k0, k1, k2, k3⟩ := (HG2.out).g.cells
                      obtain ⟨f0, f1, f2, f3⟩ := (HG2.out).g.frozen
                      have HQ := Aside0.mk ((((HG2.out).g.set0 (.slice A wd.length c)).set1 (.int .i64 (valW x3))).set2 (.slice A2 N c2))
                      have HR3 := Aside0.mk (fun (a : Nat) (ha : a < w.heap.size + 2) (o : Nat) (y : Value) (W3 : World) (h3 : Kd.R (Kd.int .i64) 3 W3 w.heap.size (fun k => w.heap.size + 2 ≤ k) (.slice A wd.length c) (wd.map valW)) => Kd.R_far h3 (p := ⟨a, o, none⟩) (fun k hk he => by have h0 : k = a := he; omega) y)
                      have HM3 := Aside0.mk (fun (a : Nat) (ha : a < w.heap.size + 2) (o : Nat) (y : Value) (W3 : World) (h3 : MM w.heap.size (w.heap.size + 2) W3 (.slice A2 N c2) M wd.length gs uu) => h3.far (a := a) (j := o) ha y)
                      go_wp2
                      have hr := Kd.R_reads' (HR3.out (w.heap.size + 1) (by omega) 0 (.int .i64 0) _ (HR3.out w.heap.size (by omega) 2 (.slice A2 N c2) _ (HR3.out w.heap.size (by omega) 1 (.int .i64 (valW x3)) _ (HR3.out w.heap.size (by omega) 0 (.slice A wd.length c) _ HR2.out))))
                      have hm := HM3.out (w.heap.size + 1) (by omega) 0 (.int .i64 0) _ (HM3.out w.heap.size (by omega) 2 (.slice A2 N c2) _ (HM3.out w.heap.size (by omega) 1 (.int .i64 (valW x3)) _ (HM3.out w.heap.size (by omega) 0 (.slice A wd.length c) _ HM2.out)))
                      obtain ⟨A2', c2', e, hle, hCM⟩ := hm.reads (by have := HWL.out; omega)
                      injection e with e1 e2 e3
                      subst e1 e3
                      exact get_done (A1 := A) (A2 := A2) (c1 := c) (c2 := c2) (rk := wd.map valW) (M := M) HRR.out ((HQ.out).hb.setCell (p := ⟨w.heap.size + 1, 0, none⟩) (Nat.le_succ _) _) (by rw [List.length_map, HL.out]; exact blk_far (HQ.out).ha (by show w.heap.size ≠ w.heap.size + 1; omega) _) (blk_set (HQ.out).he 0 _) hr.2.2 (by rw [List.length_map]; exact hr.2.1) hCM hle _ rfl rfl
            · have h3z : ¬ (((ws2.drop 1).length : Int) = 3) := by omega
              have HN := Aside0.mk (HV6.out (by
                unfold secOk
                split
                · rename_i h; rw [h] at h3; exact absurd rfl h3
                · rfl))
              generalize (ws2.drop 1).length = nn at *
              go_wp2
              exact get_panic (getR_bad HSZ.out HN.out) (HG5.out).g _ rfl rfl
end Go.Proofs.YtbmcigakiibncaaGreatDoor.H
namespace Go.Proofs.YtbmcigakiibncaaGreatDoor.H
open Go.RowKit Go.Proofs.YtbmcigakiibncaaGreatDoorW.PrintWords Go.Proofs.YtbmcigakiibncaaGreatDoorW.PrintLast Go.Proofs.YtbmcigakiibncaaGreatDoorW.PrintMore
open Go.Proofs.YtbmcigakiibncaaGreatDoor.Q (S28 k28)
set_option linter.unusedVariables false
set_option linter.unusedSimpArgs false
def exT : ByteArray := ⟨#[114, 97, 110, 107, 115, 32, 50, 32, 49, 32, 48, 10, 115, 116, 97, 116, 101, 115, 32, 49, 32, 115, 116, 97, 114, 116, 32, 48, 10, 48, 32, 48, 58, 32, 48, 46, 48, 32, 49, 46, 48, 10, 48, 32, 50, 58, 10]⟩
def rk0 : List Int := [2, 1, 0]
def M0 : Mv := [[[[⟨0, 0⟩, ⟨1, 0⟩]], [], [[]]]]
def D0 : Mv := [[[[⟨0, 0⟩], [⟨1, 0⟩]], [[]], []]]
def c0T : S28 := ⟨2, []⟩
def b0T : S28 := ⟨1, [⟨2, []⟩]⟩
def exD : List UInt8 := [114, 97, 110, 107, 115, 32, 50, 32, 49, 32, 48, 10, 115, 116, 97, 116, 101, 115, 32, 49, 32, 115, 116, 97, 114, 116, 32, 48, 10, 48, 32, 48, 58, 32, 48, 46, 48, 10, 48, 32, 48, 58, 32, 49, 46, 48, 10, 48, 32, 49, 58, 10]
theorem ex_get : getR exT = (0, rk0, 0, M0) := by kernel_rfl
theorem ex_dual : dualR rk0 0 M0 = (0, rk0, 0, D0) := by kernel_rfl
theorem ex_put : putR rk0 0 D0 = (exD, 0) := by kernel_rfl
theorem ex_is1 : isV rk0 0 M0 0 c0T = true ∧ stErr rk0 0 M0 0 c0T = 0 := ⟨by kernel_rfl, by kernel_rfl⟩
theorem ex_is2 : isV rk0 0 M0 0 b0T = false ∧ stErr rk0 0 M0 0 b0T = 0 := ⟨by kernel_rfl, by kernel_rfl⟩
theorem ex_is3 : isV rk0 0 D0 1 b0T = true ∧ stErr rk0 0 D0 1 b0T = 0 := ⟨by kernel_rfl, by kernel_rfl⟩
theorem get0_calls (w : World) (hm : MX w) : Calls Tryz.prog 26 #[.string exT] w fun E w' => ∃ A1 c1 A2 c2, E = .returned (.tuple #[.agg #[.slice A1 rk0.length c1, .int .i64 0, .slice A2 M0.length c2], .int .i64 0]) ∧ Kd.C (Kd.int .i64) w' A1 rk0.length rk0 ∧ rk0.length ≤ c1 ∧ Kd.C kA3 w' A2 M0.length M0 ∧ Below w.heap.size w w' := by
  refine (get_calls exT w hm).mono ?_
  intro E w' h
  unfold GetE at h
  rw [ex_get] at h
  obtain ⟨A1, c1, A2, c2, rfl, h1, h2, h3, h4, h5⟩ := h
  exact ⟨A1, c1, A2, c2, rfl, h1, h2, h3, h5⟩
theorem dual0_calls (A1 : Option Addr) (c1 : Nat) (A2 : Option Addr) (c2 : Nat) (w : World) (hr : Kd.C (Kd.int .i64) w A1 rk0.length rk0) (hc1 : rk0.length ≤ c1) (hM : Kd.C kA3 w A2 M0.length M0) (ht : TabD w) :
    Calls Tryz.prog 21 #[.agg #[.slice A1 rk0.length c1, .int .i64 0, .slice A2 M0.length c2]] w fun E w' => ∃ A1 c1 A2 c2, E = .returned (.tuple #[.agg #[.slice A1 rk0.length c1, .int .i64 0, .slice A2 D0.length c2], .int .i64 0]) ∧ Kd.C (Kd.int .i64) w' A1 rk0.length rk0 ∧ rk0.length ≤ c1 ∧ Kd.C kA3 w' A2 D0.length D0 ∧ Below w.heap.size w w' := by
  refine (adual_calls rk0 M0 0 A1 c1 A2 c2 w hr hc1 hM ht).mono ?_
  intro E w' h
  unfold DualRE at h
  rw [ex_dual] at h
  obtain ⟨v1, v2, rfl, h1, h2, h3⟩ := h
  obtain ⟨A3, c3, rfl⟩ := Kd.R_slice h1
  obtain ⟨A4, c4, rfl⟩ := Kd.R_slice h2
  have r1 := Kd.R_reads' h1
  have r2 := Kd.R_reads' h2
  exact ⟨A3, c3, A4, c4, rfl, r1.2.2, r1.2.1, r2.2.2, h3⟩
theorem C_nilT (w : World) : Kd.C k28 w none 0 [] := ⟨rfl, by simp, fun h => absurd h (by simp)⟩
theorem C_oneT {w : World} {g : Nat} {f0 : Int} (h : w.heap[g]? = some (.cells #[.int .i64 f0, .slice none 0 0] 28 (0, 0))) : Kd.C k28 w (some ⟨g, 0, none⟩) 1 [⟨f0, []⟩] := by
  refine ⟨rfl, by simp, fun _ => ⟨_, rfl, fun j p hj => ?_⟩⟩
  have hj0 : j = 0 := by
    have := (List.getElem?_eq_some_iff.1 hj).1
    simpa using this
  subst hj0
  obtain rfl : (⟨f0, []⟩ : S28) = p := by simpa using hj
  refine ⟨[.int .i64 f0, .slice none 0 0], rfl, Q.k28_mk w ⟨f0, []⟩ (A1 := none) (c1 := 0) (Nat.le_refl _) (C_nilT w), fun i u hu => ?_⟩
  rw [show (Addr.add ⟨g, 0, none⟩ (0 * k28.sz + i)) = ⟨g, i, none⟩ by rw [Nat.zero_mul, Nat.zero_add]; simp [Addr.add]; exact fun e => e.symm, blk_cell h i]
  match i, hu with
  | 0, hu => simpa using hu
  | 1, hu => simpa using hu
  | i + 2, hu => simp at hu
theorem box3_of {W : World} {b : Nat} {x y z : Value} (h : W.heap[b]? = some (.cells #[x, y, z] 25 (0, 0))) : W.cell? ⟨b, 0, none⟩ = some x ∧ W.cell? ⟨b, 1, none⟩ = some y ∧ W.cell? ⟨b, 2, none⟩ = some z := ⟨(blk_cell h 0).trans rfl, (blk_cell h 1).trans rfl, (blk_cell h 2).trans rfl⟩
theorem box2_of {W : World} {b : Nat} {x y : Value} (h : W.heap[b]? = some (.cells #[x, y] 28 (0, 0))) : W.cell? ⟨b, 0, none⟩ = some x ∧ W.cell? ⟨b, 1, none⟩ = some y := ⟨(blk_cell h 0).trans rfl, (blk_cell h 1).trans rfl⟩
theorem exD_list : (⟨exD.toArray⟩ : ByteArray).toList = exD := by rw [Lib.toList_data]
theorem is1_calls (A1 : Option Addr) (c1 : Nat) (A2 : Option Addr) (c2 : Nat) (w : World) (hr : Kd.C (Kd.int .i64) w A1 rk0.length rk0) (hc1 : rk0.length ≤ c1) (hM : Kd.C kA3 w A2 M0.length M0) (hT : Tab w) :
    Calls Tryz.prog 15 #[.agg #[.slice A1 rk0.length c1, .int .i64 0, .slice A2 M0.length c2], .int .i64 0, .agg #[.int .i64 2, .slice none 0 0]] w fun E w' => E = .returned (.tuple #[.bool true, .int .i64 0]) ∧ Below w.heap.size w w' := by
  have h := aisG_calls rk0 M0 0 0 c0T A1 c1 A2 c2 none 0 w hr hc1 hM (C_nilT w) (Nat.le_refl _) hT
  rw [ex_is1.1, ex_is1.2] at h
  exact h
theorem is2_calls (A1 : Option Addr) (c1 : Nat) (A2 : Option Addr) (c2 : Nat) (g : Nat) (w : World) (hr : Kd.C (Kd.int .i64) w A1 rk0.length rk0) (hc1 : rk0.length ≤ c1) (hM : Kd.C kA3 w A2 M0.length M0) (hg : w.heap[g]? = some (.cells #[.int .i64 2, .slice none 0 0] 28 (0, 0))) (hT : Tab w) :
    Calls Tryz.prog 15 #[.agg #[.slice A1 rk0.length c1, .int .i64 0, .slice A2 M0.length c2], .int .i64 0, .agg #[.int .i64 1, .slice (some ⟨g, 0, none⟩) 1 1]] w fun E w' => E = .returned (.tuple #[.bool false, .int .i64 0]) ∧ Below w.heap.size w w' := by
  have h := aisG_calls rk0 M0 0 0 b0T A1 c1 A2 c2 (some ⟨g, 0, none⟩) 1 w hr hc1 hM (C_oneT hg) (Nat.le_refl _) hT
  rw [ex_is2.1, ex_is2.2] at h
  exact h
theorem is3_calls (A1 : Option Addr) (c1 : Nat) (A2 : Option Addr) (c2 : Nat) (g : Nat) (w : World) (hr : Kd.C (Kd.int .i64) w A1 rk0.length rk0) (hc1 : rk0.length ≤ c1) (hM : Kd.C kA3 w A2 D0.length D0) (hg : w.heap[g]? = some (.cells #[.int .i64 2, .slice none 0 0] 28 (0, 0))) (hT : Tab w) :
    Calls Tryz.prog 15 #[.agg #[.slice A1 rk0.length c1, .int .i64 0, .slice A2 D0.length c2], .int .i64 1, .agg #[.int .i64 1, .slice (some ⟨g, 0, none⟩) 1 1]] w fun E w' => E = .returned (.tuple #[.bool true, .int .i64 0]) ∧ Below w.heap.size w w' := by
  have h := aisG_calls rk0 D0 0 1 b0T A1 c1 A2 c2 (some ⟨g, 0, none⟩) 1 w hr hc1 hM (C_oneT hg) (Nat.le_refl _) hT
  rw [ex_is3.1, ex_is3.2] at h
  exact h
theorem put0_calls (A1 : Option Addr) (c1 : Nat) (A2 : Option Addr) (c2 : Nat) (w : World) (hr : Kd.C (Kd.int .i64) w A1 rk0.length rk0) (hc1 : rk0.length ≤ c1) (hM : Kd.C kA3 w A2 D0.length D0) :
    Calls Tryz.prog 24 #[.agg #[.slice A1 rk0.length c1, .int .i64 0, .slice A2 D0.length c2]] w fun E w' => E = .returned (.tuple #[.string ⟨exD.toArray⟩, .int .i64 0]) ∧ Below w.heap.size w w' := by
  refine (put_calls rk0 D0 0 A1 c1 A2 c2 w hr hc1 hM).mono ?_
  intro E w' h
  unfold PutE at h
  rw [ex_put] at h
  exact h
set_option maxHeartbeats 16000000 in
set_option maxRecDepth 100000 in
theorem alive_calls (w : World) (hm : MX w) (ht : TabD w) : Calls Tryz.prog 18 #[] w fun E w' => E = .returned (.bool true) ∧ Below w.heap.size w w' := by
  have HG := Aside0.mk (get0_calls w hm)
  have HT := Aside0.mk ht
  unfold exT at HG
  clear hm ht
  go_enter Tryz.func18, Tryz.ntmps18
  go_wp2_with fail
  refine (HG.out).mono ?_
  rintro E W1 ⟨A1, c1, A2, c2, rfl, hr1, hc1, hM1, hb1⟩
  have HB1 := Aside0.mk hb1
  have HR1 := Aside0.mk hr1
  have HC1 := Aside0.mk hc1
  have HM1 := Aside0.mk hM1
  have hba := below_alloc (Below.refl W1.heap.size W1) (.cells #[.slice A1 rk0.length c1, .int .i64 0, .slice A2 M0.length c2] 25)
  have HX1 := Aside0.mk (blk_new W1 (.cells #[.slice A1 rk0.length c1, .int .i64 0, .slice A2 M0.length c2] 25))
  have HB2 := Aside0.mk (below_then hb1 hb1.size hba)
  have HR2 := Aside0.mk (Kd.C_below hr1 hba)
  have HM2 := Aside0.mk (Kd.C_below hM1 hba)
  clear hr1 hc1 hM1 hb1 hba HG HR1 HM1
  go_upto_region 2 with (fail)
  generalize W1.alloc (.cells #[.slice A1 rk0.length c1, .int .i64 0, .slice A2 M0.length c2] 25) = W2 at *
  generalize W1.heap.size = b1 at *
  obtain ⟨k0, k1, k2⟩ := box3_of HX1.out
  have HDU := Aside0.mk (dual0_calls A1 c1 A2 c2 W2 HR2.out HC1.out HM2.out ((HT.out).below HB2.out))
  go_wp2_with fail
  refine (HDU.out).mono ?_
  rintro E W3 ⟨A3, c3, A4, c4, rfl, hr3, hc3, hM3, hb3⟩
  have hba := below_alloc (Below.refl W3.heap.size W3) (.cells #[.slice A3 rk0.length c3, .int .i64 0, .slice A4 D0.length c4] 25)
  have hb4 := below_then hb3 hb3.size hba
  have HB4 := Aside0.mk (below_then HB2.out (HB2.out).size hb4)
  have HX1' := Aside0.mk (blk_below HX1.out hb4)
  have HR4 := Aside0.mk (Kd.C_below HR2.out hb4)
  have HM4 := Aside0.mk (Kd.C_below HM2.out hb4)
  have HX3 := Aside0.mk (blk_new W3 (.cells #[.slice A3 rk0.length c3, .int .i64 0, .slice A4 D0.length c4] 25))
  have HC3 := Aside0.mk hc3
  have HS4 := Aside0.mk (Kd.C_below hr3 hba)
  have HN4 := Aside0.mk (Kd.C_below hM3 hba)
  clear hr3 hc3 hM3 hb3 hba hb4 k0 k1 k2 HDU HX1 HR2 HM2 HB2
  go_upto_region 3 with (fail)
  generalize W3.alloc (.cells #[.slice A3 rk0.length c3, .int .i64 0, .slice A4 D0.length c4] 25) = W4 at *
  generalize W3.heap.size = b3 at *
  have hba := below_alloc (below_alloc (below_alloc (Below.refl W4.heap.size W4) (.cells #[.int .i64 2, .slice none 0 0] 28)) (.cells #[.int .i64 2, .slice none 0 0] 28)) (.cells #[.int .i64 1, .slice (some ⟨W4.heap.size + 1, 0, none⟩) 1 1] 28)
  have h5 := blk_alloc (blk_alloc (blk_new W4 (.cells #[.int .i64 2, .slice none 0 0] 28)) (.cells #[.int .i64 2, .slice none 0 0] 28)) (.cells #[.int .i64 1, .slice (some ⟨W4.heap.size + 1, 0, none⟩) 1 1] 28)
  have h6 := blk_alloc (blk_at2 W4 (.cells #[.int .i64 2, .slice none 0 0] 28) (.cells #[.int .i64 2, .slice none 0 0] 28)) (.cells #[.int .i64 1, .slice (some ⟨W4.heap.size + 1, 0, none⟩) 1 1] 28)
  have h7 := blk_new ((W4.alloc (.cells #[.int .i64 2, .slice none 0 0] 28)).alloc (.cells #[.int .i64 2, .slice none 0 0] 28)) (.cells #[.int .i64 1, .slice (some ⟨W4.heap.size + 1, 0, none⟩) 1 1] 28)
  have k5 := box2_of (blk_new W4 (.cells #[.int .i64 2, .slice none 0 0] 28))
  obtain ⟨k50, k51⟩ := k5
  have HB5 := Aside0.mk (below_then HB4.out (HB4.out).size hba)
  have HX5 := Aside0.mk (blk_below HX1'.out hba)
  have HY5 := Aside0.mk (blk_below HX3.out hba)
  have HR5 := Aside0.mk (Kd.C_below HR4.out hba)
  have HM5 := Aside0.mk (Kd.C_below HM4.out hba)
  have HS5 := Aside0.mk (Kd.C_below HS4.out hba)
  have HN5 := Aside0.mk (Kd.C_below HN4.out hba)
  have HT5 := Aside0.mk h5
  have HT6 := Aside0.mk h6
  rw [show ((W4.alloc (.cells #[.int .i64 2, .slice none 0 0] 28)).alloc (.cells #[.int .i64 2, .slice none 0 0] 28)).heap.size = W4.heap.size + 1 + 1 by simp] at h7
  have HT7 := Aside0.mk h7
  clear hba h5 h6 h7
  go_upto_region 5 with (fail)
  clear k50 k51
  generalize (((W4.alloc (.cells #[.int .i64 2, .slice none 0 0] 28)).alloc (.cells #[.int .i64 2, .slice none 0 0] 28)).alloc (.cells #[.int .i64 1, .slice (some ⟨W4.heap.size + 1, 0, none⟩) 1 1] 28)) = W5 at *
  generalize W4.heap.size = g at *
  have HI1 := Aside0.mk (fun (W : World) (hb : Below W5.heap.size W5 W) => is1_calls A1 c1 A2 c2 W (Kd.C_below HR5.out hb) HC1.out (Kd.C_below HM5.out hb) ((HT.out).tab.below (below_then HB5.out (HB5.out).size hb)))
  have HI2 := Aside0.mk (fun (W : World) (hb : Below W5.heap.size W5 W) => is2_calls A1 c1 A2 c2 (g + 1) W (Kd.C_below HR5.out hb) HC1.out (Kd.C_below HM5.out hb) (blk_below HT6.out hb) ((HT.out).tab.below (below_then HB5.out (HB5.out).size hb)))
  have HI3 := Aside0.mk (fun (W : World) (hb : Below W5.heap.size W5 W) => is3_calls A3 c3 A4 c4 (g + 1) W (Kd.C_below HS5.out hb) HC3.out (Kd.C_below HN5.out hb) (blk_below HT6.out hb) ((HT.out).tab.below (below_then HB5.out (HB5.out).size hb)))
  have HPU := Aside0.mk (fun (W : World) (hb : Below W5.heap.size W5 W) => put0_calls A3 c3 A4 c4 W (Kd.C_below HS5.out hb) HC3.out (Kd.C_below HN5.out hb))
  obtain ⟨k10, k11, k12⟩ := box3_of HX5.out
  obtain ⟨k50, k51⟩ := box2_of HT5.out
  go_wp2_with fail
  refine (HI1.out _ (Below.refl _ _)).mono ?_
  rintro E W6 ⟨rfl, hb6⟩
  have HB6 := Aside0.mk hb6
  clear k10 k11 k12 k50 k51 hb6
  obtain ⟨k10, k11, k12⟩ := box3_of (blk_below HX5.out HB6.out)
  obtain ⟨k60, k61⟩ := box2_of (blk_below HT7.out HB6.out)
  go_wp2_with fail
  refine (HI2.out _ HB6.out).mono ?_
  rintro E W7 ⟨rfl, hb7⟩
  have HB7 := Aside0.mk (below_then HB6.out (HB6.out).size hb7)
  clear k10 k11 k12 k60 k61 hb7
  obtain ⟨k10, k11, k12⟩ := box3_of (blk_below HY5.out HB7.out)
  obtain ⟨k60, k61⟩ := box2_of (blk_below HT7.out HB7.out)
  go_wp2_with fail
  refine (HI3.out _ HB7.out).mono ?_
  rintro E W8 ⟨rfl, hb8⟩
  have HB8 := Aside0.mk (below_then HB7.out (HB7.out).size hb8)
  clear k10 k11 k12 k60 k61 hb8
  obtain ⟨k10, k11, k12⟩ := box3_of (blk_below HY5.out HB8.out)
  go_wp2_with fail
  refine (HPU.out _ HB8.out).mono ?_
  rintro E W9 ⟨rfl, hb9⟩
  have HB9 := Aside0.mk (below_then HB5.out (HB5.out).size (below_then HB8.out (HB8.out).size hb9))
  have hex := exD_list
  unfold exD at hex ⊢
  clear k10 k11 k12 hb9
  go_wp2
  go_ret
  exact ⟨rfl, HB9.out⟩
end Go.Proofs.YtbmcigakiibncaaGreatDoor.H
namespace Go.Proofs.YtbmcigakiibncaaGreatDoor.H
open Go.RowKit Go.Proofs.YtbmcigakiibncaaGreatDoorW.PrintWords Go.Proofs.YtbmcigakiibncaaGreatDoorW.PrintLast Go.Proofs.YtbmcigakiibncaaGreatDoorW.PrintMore
set_option linter.unusedVariables false
set_option linter.unusedSimpArgs false
structure TX2 (w : World) (x y z x' y' z' : Value) (W : World) : Prop where
  hb : Below w.heap.size w W
  box : W.heap[w.heap.size]? = some (.cells #[x, y, z] 25 (0, 0))
  box' : W.heap[w.heap.size + 1]? = some (.cells #[x', y', z'] 25 (0, 0))
theorem TX2.below {w W W1 : World} {x y z x' y' z' : Value} (h : TX2 w x y z x' y' z' W) (hb : Below W.heap.size W W1) : TX2 w x y z x' y' z' W1 :=
  ⟨below_then h.hb h.hb.size hb, blk_below h.box hb, blk_below h.box' hb⟩
theorem TX2.start (w : World) (x y z x' y' z' : Value) : TX2 w x y z x' y' z' ((w.alloc (.cells #[x, y, z] 25)).alloc (.cells #[x', y', z'] 25)) :=
  ⟨below_alloc (below_alloc (Below.refl w.heap.size w) _) _, blk_alloc (blk_new w _) _, blk_at2 w _ _⟩
set_option maxHeartbeats 8000000 in
set_option maxRecDepth 100000 in
theorem asame_calls (rk : List Int) (M : Mv) (st : Int) (A1 : Option Addr) (c1 : Nat) (A2 : Option Addr) (c2 : Nat) (rk' : List Int) (M' : Mv) (st' : Int) (B1 : Option Addr) (d1 : Nat) (B2 : Option Addr) (d2 : Nat) (w : World)
    (hr : Kd.C (Kd.int .i64) w A1 rk.length rk) (hc1 : rk.length ≤ c1) (hM : Kd.C kA3 w A2 M.length M) (hc2 : M.length ≤ c2)
    (hr' : Kd.C (Kd.int .i64) w B1 rk'.length rk') (hd1 : rk'.length ≤ d1) (hM' : Kd.C kA3 w B2 M'.length M') (hd2 : M'.length ≤ d2) :
    Calls Tryz.prog 32 #[.agg #[.slice A1 rk.length c1, .int .i64 st, .slice A2 M.length c2], .agg #[.slice B1 rk'.length d1, .int .i64 st', .slice B2 M'.length d2]] w fun e w' => e = .returned (.bool (sameB rk st M rk' st' M')) ∧ Below w.heap.size w w' := by
  have hmf := run_mkfun
  have HC1 := Aside0.mk fun W (hW : Below w.heap.size w W) => acheckG_calls rk M st A1 c1 A2 c2 W (Kd.C_below hr hW) hc1 (Kd.C_below hM hW)
  have HC2 := Aside0.mk fun W (hW : Below w.heap.size w W) => acheckG_calls rk' M' st' B1 d1 B2 d2 W (Kd.C_below hr' hW) hd1 (Kd.C_below hM' hW)
  have HE := Aside0.mk fun W (hW : Below w.heap.size w W) => eqI_calls A1 c1 rk B1 d1 rk' W (Kd.C_below hr hW) hc1 (Kd.C_below hr' hW) hd1
  have HF := Aside0.mk fun W (hW : Below w.heap.size w W) => eqf80_calls A2 c2 M B2 d2 M' W (Kd.C_below hM hW) hc2 (Kd.C_below hM' hW) hd2
  have HS := Aside0.mk (TX2.start w (.slice A1 rk.length c1) (.int .i64 st) (.slice A2 M.length c2) (.slice B1 rk'.length d1) (.int .i64 st') (.slice B2 M'.length d2))
  have HV := Aside0.mk (show sameB rk st M rk' st' M' = (auB rk st M && (auB rk' st' M' && (eqI rk rk' && (decide (st = st') && eq4 M M')))) from rfl)
  clear hr hc1 hM hc2 hr' hd1 hM' hd2
  generalize sameB rk st M rk' st' M' = R at *
  go_enter Tryz.func32, Tryz.ntmps32
  go_upto_region 1 with (fail)
  generalize ((w.alloc (.cells #[.slice A1 rk.length c1, .int .i64 st, .slice A2 M.length c2] 25)).alloc (.cells #[.slice B1 rk'.length d1, .int .i64 st', .slice B2 M'.length d2] 25)) = W1 at *
  have k0 : W1.cell? ⟨w.heap.size, 0, none⟩ = some (.slice A1 rk.length c1) := (blk_cell (HS.out).box 0).trans rfl
  have k1 : W1.cell? ⟨w.heap.size, 1, none⟩ = some (.int .i64 st) := (blk_cell (HS.out).box 1).trans rfl
  have k2 : W1.cell? ⟨w.heap.size, 2, none⟩ = some (.slice A2 M.length c2) := (blk_cell (HS.out).box 2).trans rfl
  go_wp2_with fail
  refine (HC1.out _ (HS.out).hb).mono ?_
  rintro E W2 ⟨rfl, hb⟩
  have HS2 := Aside0.mk ((HS.out).below hb)
  clear hb HS k0 k1 k2 HC1
  cases h1 : auB rk st M with
  | false =>
    rw [chk_false h1]
    have HP := Aside0.mk (show R = false by rw [HV.out, h1]; rfl)
    clear h1 HV
    go_wp2
    go_ret
    exact ⟨by rw [HP.out]; rfl, (HS2.out).hb⟩
  | true =>
  rw [chk_true h1]
  rw [h1, Bool.true_and] at HV
  clear h1
  have k0 : W2.cell? ⟨w.heap.size + 1, 0, none⟩ = some (.slice B1 rk'.length d1) := (blk_cell (HS2.out).box' 0).trans rfl
  have k1 : W2.cell? ⟨w.heap.size + 1, 1, none⟩ = some (.int .i64 st') := (blk_cell (HS2.out).box' 1).trans rfl
  have k2 : W2.cell? ⟨w.heap.size + 1, 2, none⟩ = some (.slice B2 M'.length d2) := (blk_cell (HS2.out).box' 2).trans rfl
  go_wp2_with fail
  refine (HC2.out _ (HS2.out).hb).mono ?_
  rintro E W3 ⟨rfl, hb⟩
  have HS3 := Aside0.mk ((HS2.out).below hb)
  clear hb HS2 k0 k1 k2 HC2
  cases h2 : auB rk' st' M' with
  | false =>
    rw [chk_false h2]
    have HP := Aside0.mk (show R = false by rw [HV.out, h2]; rfl)
    clear h2 HV
    go_wp2
    go_ret
    exact ⟨by rw [HP.out]; rfl, (HS3.out).hb⟩
  | true =>
  rw [chk_true h2]
  rw [h2, Bool.true_and] at HV
  clear h2
  have k1 : W3.cell? ⟨w.heap.size, 1, none⟩ = some (.int .i64 st) := (blk_cell (HS3.out).box 1).trans rfl
  have k3 : W3.cell? ⟨w.heap.size + 1, 1, none⟩ = some (.int .i64 st') := (blk_cell (HS3.out).box' 1).trans rfl
  cases h3 : (st != st') with
  | true =>
    have HP := Aside0.mk (show R = false by rw [HV.out, show decide (st = st') = false by simpa using h3]; simp)
    clear HV
    go_wp2
    go_ret
    exact ⟨by rw [HP.out]; rfl, (HS3.out).hb⟩
  | false =>
  have h3' : decide (st = st') = true := by simpa using h3
  rw [h3', Bool.true_and] at HV
  have k0 : W3.cell? ⟨w.heap.size, 0, none⟩ = some (.slice A1 rk.length c1) := (blk_cell (HS3.out).box 0).trans rfl
  have k4 : W3.cell? ⟨w.heap.size + 1, 0, none⟩ = some (.slice B1 rk'.length d1) := (blk_cell (HS3.out).box' 0).trans rfl
  go_wp2_with fail
  refine (HE.out _ (HS3.out).hb).mono ?_
  rintro E W4 ⟨rfl, hb⟩
  have HS4 := Aside0.mk ((HS3.out).below hb)
  clear hb HS3 k0 k1 k3 k4 HE
  cases h4 : eqI rk rk' with
  | false =>
    have HP := Aside0.mk (show R = false by rw [HV.out, h4]; rfl)
    clear HV
    go_wp2
    go_ret
    exact ⟨by rw [HP.out]; rfl, (HS4.out).hb⟩
  | true =>
  rw [h4, Bool.true_and] at HV
  have k2 : W4.cell? ⟨w.heap.size, 2, none⟩ = some (.slice A2 M.length c2) := (blk_cell (HS4.out).box 2).trans rfl
  have k5 : W4.cell? ⟨w.heap.size + 1, 2, none⟩ = some (.slice B2 M'.length d2) := (blk_cell (HS4.out).box' 2).trans rfl
  go_wp2_with fail
  refine (HF.out _ (HS4.out).hb).mono ?_
  rintro E W5 ⟨rfl, hb⟩
  have HS5 := Aside0.mk ((HS4.out).below hb)
  clear hb HS4
  go_wp2
  go_ret
  exact ⟨by rw [HV.out]; rfl, (HS5.out).hb⟩
end Go.Proofs.YtbmcigakiibncaaGreatDoor.H
namespace Go.Proofs.YtbmcigakiibncaaGreatDoor.H
open Go.RowKit Go.Proofs.YtbmcigakiibncaaGreatDoorW.PrintWords Go.Proofs.YtbmcigakiibncaaGreatDoorW.PrintLast Go.Proofs.YtbmcigakiibncaaGreatDoorW.PrintMore
set_option linter.unusedVariables false
set_option linter.unusedSimpArgs false
theorem sameRanks_calls (A : Option Addr) (c : Nat) (a : List Int) (B : Option Addr) (d : Nat) (b : List Int) (w : World) (hA : Kd.C (Kd.int .i64) w A a.length a) (hc : a.length ≤ c) (hB : Kd.C (Kd.int .i64) w B b.length b) (hd : b.length ≤ d) :
    Calls Tryz.prog 67 #[.slice A a.length c, .slice B b.length d] w fun e w' => e = .returned (.bool (eqI a b)) ∧ Below w.heap.size w w' := by
  obtain ⟨k, hk⟩ := (sameRanks_ev a b hA.2.1).rounds
  exact (Q.virgationref09_SameRanks.calls k A c a B d b _ w hA hc hB hd hk).mono fun e w' h => ⟨h.1, by first | exact h.2 | exact h.2.below⟩
theorem eqMoves_calls (A : Option Addr) (c : Nat) (a : List (List Nd)) (B : Option Addr) (d : Nat) (b : List (List Nd)) (w : World) (hA : Kd.C kA1 w A a.length a) (hc : a.length ≤ c) (hB : Kd.C kA1 w B b.length b) (hd : b.length ≤ d) :
    Calls Tryz.prog 68 #[.slice A a.length c, .slice B b.length d] w fun e w' => e = .returned (.bool (eq2 a b)) ∧ Below w.heap.size w w' := by
  obtain ⟨k, hk⟩ := (eqMoves_ev a b hA.2.1 (fun x hx => by obtain ⟨A1, h1⟩ := C_kids hA hx; exact h1.2.1)).rounds
  exact (Q.virgationref09_EqualMoves.calls k A c a B d b _ w hA hc hB hd hk).mono fun e w' h => ⟨h.1, by first | exact h.2 | exact h.2.below⟩
set_option maxHeartbeats 16000000 in
set_option maxRecDepth 100000 in
theorem rsame_calls (rk : List Int) (M : Mv) (st : Int) (A1 : Option Addr) (c1 : Nat) (A2 : Option Addr) (c2 : Nat) (rk' : List Int) (M' : Mv) (st' : Int) (B1 : Option Addr) (d1 : Nat) (B2 : Option Addr) (d2 : Nat) (w : World)
    (hr : Kd.C (Kd.int .i64) w A1 rk.length rk) (hc1 : rk.length ≤ c1) (hM : Kd.C kA3 w A2 M.length M) (hc2 : M.length ≤ c2)
    (hr' : Kd.C (Kd.int .i64) w B1 rk'.length rk') (hd1 : rk'.length ≤ d1) (hM' : Kd.C kA3 w B2 M'.length M') (hd2 : M'.length ≤ d2) :
    Calls Tryz.prog 28 #[.agg #[.slice A1 rk.length c1, .int .i64 st, .slice A2 M.length c2], .agg #[.slice B1 rk'.length d1, .int .i64 st', .slice B2 M'.length d2]] w fun e w' => e = .returned (.bool (sameB rk st M rk' st' M')) ∧ Below w.heap.size w w' := by
  have HC1 := Aside0.mk fun W (hW : Below w.heap.size w W) => isA_calls rk M st A1 c1 A2 c2 W (Kd.C_below hr hW) hc1 (Kd.C_below hM hW) hc2
  have HC2 := Aside0.mk fun W (hW : Below w.heap.size w W) => isA_calls rk' M' st' B1 d1 B2 d2 W (Kd.C_below hr' hW) hd1 (Kd.C_below hM' hW) hd2
  have HE := Aside0.mk fun W (hW : Below w.heap.size w W) => sameRanks_calls A1 c1 rk B1 d1 rk' W (Kd.C_below hr hW) hc1 (Kd.C_below hr' hW) hd1
  have HM := Aside0.mk hM
  have HM' := Aside0.mk hM'
  have HS := Aside0.mk (TX2.start w (.slice A1 rk.length c1) (.int .i64 st) (.slice A2 M.length c2) (.slice B1 rk'.length d1) (.int .i64 st') (.slice B2 M'.length d2))
  have HV := Aside0.mk (show sameB rk st M rk' st' M' = (auB rk st M && (auB rk' st' M' && (eqI rk rk' && (decide (st = st') && eq4 M M')))) from rfl)
  clear hr hc1 hM hc2 hr' hd1 hM' hd2
  generalize sameB rk st M rk' st' M' = R at *
  go_enter Tryz.func28, Tryz.ntmps28
  go_upto_region 1 with (fail)
  generalize ((w.alloc (.cells #[.slice A1 rk.length c1, .int .i64 st, .slice A2 M.length c2] 25)).alloc (.cells #[.slice B1 rk'.length d1, .int .i64 st', .slice B2 M'.length d2] 25)) = W1 at *
  have k0 : W1.cell? ⟨w.heap.size, 0, none⟩ = some (.slice A1 rk.length c1) := (blk_cell (HS.out).box 0).trans rfl
  have k1 : W1.cell? ⟨w.heap.size, 1, none⟩ = some (.int .i64 st) := (blk_cell (HS.out).box 1).trans rfl
  have k2 : W1.cell? ⟨w.heap.size, 2, none⟩ = some (.slice A2 M.length c2) := (blk_cell (HS.out).box 2).trans rfl
  go_wp2_with fail
  refine (HC1.out _ (HS.out).hb).mono ?_
  rintro E W2 ⟨rfl, hb⟩
  have HS2 := Aside0.mk ((HS.out).below hb)
  clear hb HS k0 k1 k2 HC1
  cases h1 : auB rk st M with
  | false =>
    have HP := Aside0.mk (show R = false by rw [HV.out, h1]; rfl)
    clear h1 HV
    go_wp2
    go_ret
    exact ⟨by rw [HP.out]; rfl, (HS2.out).hb⟩
  | true =>
  have HO1 := Aside0.mk (auOk h1)
  rw [h1, Bool.true_and] at HV
  clear h1
  have k0 : W2.cell? ⟨w.heap.size + 1, 0, none⟩ = some (.slice B1 rk'.length d1) := (blk_cell (HS2.out).box' 0).trans rfl
  have k1 : W2.cell? ⟨w.heap.size + 1, 1, none⟩ = some (.int .i64 st') := (blk_cell (HS2.out).box' 1).trans rfl
  have k2 : W2.cell? ⟨w.heap.size + 1, 2, none⟩ = some (.slice B2 M'.length d2) := (blk_cell (HS2.out).box' 2).trans rfl
  go_wp2_with fail
  refine (HC2.out _ (HS2.out).hb).mono ?_
  rintro E W3 ⟨rfl, hb⟩
  have HS3 := Aside0.mk ((HS2.out).below hb)
  clear hb HS2 k0 k1 k2 HC2
  cases h2 : auB rk' st' M' with
  | false =>
    have HP := Aside0.mk (show R = false by rw [HV.out, h2]; rfl)
    clear h2 HV
    go_wp2
    go_ret
    exact ⟨by rw [HP.out]; rfl, (HS3.out).hb⟩
  | true =>
  have HO2 := Aside0.mk (auOk h2)
  rw [h2, Bool.true_and] at HV
  clear h2
  have k0 : W3.cell? ⟨w.heap.size, 0, none⟩ = some (.slice A1 rk.length c1) := (blk_cell (HS3.out).box 0).trans rfl
  have k4 : W3.cell? ⟨w.heap.size + 1, 0, none⟩ = some (.slice B1 rk'.length d1) := (blk_cell (HS3.out).box' 0).trans rfl
  go_wp2_with fail
  refine (HE.out _ (HS3.out).hb).mono ?_
  rintro E W4 ⟨rfl, hb⟩
  have HS4 := Aside0.mk ((HS3.out).below hb)
  clear hb HS3 k0 k4 HE
  cases h4 : eqI rk rk' with
  | false =>
    have HP := Aside0.mk (show R = false by rw [HV.out, h4]; rfl)
    clear HV
    go_wp2
    go_ret
    exact ⟨by rw [HP.out]; rfl, (HS4.out).hb⟩
  | true =>
  have HRE := Aside0.mk ((eqI_iff _ _).1 h4)
  rw [h4, Bool.true_and] at HV
  clear h4
  have k1 : W4.cell? ⟨w.heap.size, 1, none⟩ = some (.int .i64 st) := (blk_cell (HS4.out).box 1).trans rfl
  have k3 : W4.cell? ⟨w.heap.size + 1, 1, none⟩ = some (.int .i64 st') := (blk_cell (HS4.out).box' 1).trans rfl
  cases h3 : (st != st') with
  | true =>
    have HP := Aside0.mk (show R = false by rw [HV.out, show decide (st = st') = false by simpa using h3]; simp)
    clear HV
    go_wp2
    go_ret
    exact ⟨by rw [HP.out]; rfl, (HS4.out).hb⟩
  | false =>
  have h3' : decide (st = st') = true := by simpa using h3
  rw [h3', Bool.true_and] at HV
  have k2 : W4.cell? ⟨w.heap.size, 2, none⟩ = some (.slice A2 M.length c2) := (blk_cell (HS4.out).box 2).trans rfl
  have k5 : W4.cell? ⟨w.heap.size + 1, 2, none⟩ = some (.slice B2 M'.length d2) := (blk_cell (HS4.out).box' 2).trans rfl
  have k0 : W4.cell? ⟨w.heap.size, 0, none⟩ = some (.slice A1 rk.length c1) := (blk_cell (HS4.out).box 0).trans rfl
  cases h5 : ((M.length : Int) != (M'.length : Int)) with
  | true =>
    have HP := Aside0.mk (show R = false by
      rw [HV.out]
      exact eqF_len (by have : ¬ (M.length : Int) = (M'.length : Int) := by simpa using h5
                        omega))
    clear HV
    go_wp2
    go_ret
    exact ⟨by rw [HP.out]; rfl, (HS4.out).hb⟩
  | false =>
  have HLM := Aside0.mk (show M.length = M'.length by have : (M.length : Int) = (M'.length : Int) := by simpa using h5
                                                      omega)
  have HN6 := Aside0.mk (HO1.out).nM
  have HN24 := Aside0.mk (HO1.out).nrk
  go_wp2
  clear k0 k1 k2 k3 k5 h3 h3' h5
  go_loopg [42] M.length (fun gg v42 wi => ∃ q : Nat, q ≤ M.length ∧ M.length - q ≤ gg ∧ v42 = .int .i64 q ∧ Aside0 (TX2 w (.slice A1 rk.length c1) (.int .i64 st) (.slice A2 M.length c2) (.slice B1 rk'.length d1) (.int .i64 st') (.slice B2 M'.length d2) wi) ∧ Aside0 (∀ i, i < q → eq3 (M.getD i []) (M'.getD i []) = true))
  case atStart => exact ⟨0, Nat.zero_le _, Nat.le_refl _, rfl, HS4, ⟨fun i hi => absurd hi (Nat.not_lt_zero _)⟩⟩
  case round =>
    clear HS4
    obtain ⟨q, hq, hgg, rfl, HS, HP⟩ := hrel
    by_cases hlt : q < M.length
    · have hltz : (q : Int) < (M.length : Int) := by omega
      have HLT := Aside0.mk hlt
      have HKQ := Aside0.mk (show wrap64 ((q : Int) + 1) = ((q + 1 : Nat) : Int) by rw [wr_id (by omega) (by have := HN6.out; omega)]; rfl)
      obtain ⟨ad, A3, c3, e, hk, hl3, hC3⟩ := at_sl HM.out q hlt
      subst e
      obtain ⟨bd, B3, d3, e, hkb, hl4, hC4⟩ := at_sl HM'.out q (by have := HLM.out; omega)
      subst e
      have HK := Aside0.mk hk
      have HKB := Aside0.mk hkb
      have HC3 := Aside0.mk hC3
      have HC4 := Aside0.mk hC4
      have HF := Aside0.mk (show eq3 (M.getD q []) (M'.getD q []) = false → R = false from fun h => by rw [HV.out]; exact eqF_at hlt h)
      have HT := Aside0.mk (show eq3 (M.getD q []) (M'.getD q []) = true → ∀ i, i < q + 1 → eq3 (M.getD i []) (M'.getD i []) = true from fun h i hi => by
        rcases Nat.lt_or_ge i q with h2 | h2
        · exact HP.out i h2
        · rw [show i = q by omega]; exact h)
      have HR1 := Aside0.mk ((HO1.out).row _ (getD_memD [] hlt))
      have HR2 := Aside0.mk ((HO2.out).row (M'.getD q []) (getD_memD [] (by have := HLM.out; omega)))
      have k0 : wr.cell? ⟨w.heap.size, 0, none⟩ = some (.slice A1 rk.length c1) := (blk_cell (HS.out).box 0).trans rfl
      clear hk hkb hC3 hC4 hl3 hl4 HP hlt hq
      generalize M.getD q [] = row at *
      generalize M'.getD q [] = row' at *
      go_wp2
      clear k0
      go_loopg [48] rk.length (fun gg v48 wi => ∃ f : Nat, f ≤ rk.length ∧ rk.length - f ≤ gg ∧ v48 = .int .i64 f ∧ Aside0 (TX2 w (.slice A1 rk.length c1) (.int .i64 st) (.slice (some ad) M.length c2) (.slice B1 rk'.length d1) (.int .i64 st') (.slice (some bd) M'.length d2) wi) ∧ Aside0 (∀ i, i < f → eq2 (row.getD i []) (row'.getD i []) = true))
      case atStart => exact ⟨0, Nat.zero_le _, Nat.le_refl _, rfl, HS, ⟨fun i hi => absurd hi (Nat.not_lt_zero _)⟩⟩
      case round =>
        clear HS
        obtain ⟨f, hf, hgg, rfl, HS, HP⟩ := hrel
        by_cases hlt : f < rk.length
        · have hltf : (f : Int) < (rk.length : Int) := by omega
          have hltr : (f : Int) < (row.length : Int) := by have := HR1.out; omega
          have hltr' : (f : Int) < (row'.length : Int) := by have := HR2.out; have := congrArg List.length HRE.out; omega
          have hltm' : (q : Int) < (M'.length : Int) := by have := HLM.out; omega
          have HLF := Aside0.mk hlt
          have HKF := Aside0.mk (show wrap64 ((f : Int) + 1) = ((f + 1 : Nat) : Int) by rw [wr_id (by omega) (by have := HN24.out; omega)]; rfl)
          obtain ⟨ad4, A4, c4, e, hk4, hl4, hC4⟩ := at_sl HC3.out f (by have := HR1.out; omega)
          subst e
          obtain ⟨bd4, B4, d4, e, hkb4, hl5, hC5⟩ := at_sl HC4.out f (by omega)
          subst e
          have HF4 := Aside0.mk (show eq2 (row.getD f []) (row'.getD f []) = false → R = false from fun h => HF.out (eqF_at (by have := HR1.out; omega) h))
          have HT4 := Aside0.mk (show eq2 (row.getD f []) (row'.getD f []) = true → ∀ i, i < f + 1 → eq2 (row.getD i []) (row'.getD i []) = true from fun h i hi => by
            rcases Nat.lt_or_ge i f with h2 | h2
            · exact HP.out i h2
            · rw [show i = f by omega]; exact h)
          have HC := Aside0.mk fun W (hW : Below w.heap.size w W) => eqMoves_calls A4 c4 (row.getD f []) B4 d4 (row'.getD f []) W (Kd.C_below hC4 hW) hl4 (Kd.C_below hC5 hW) hl5
          have HK4 := Aside0.mk hk4
          have HKB4 := Aside0.mk hkb4
          clear hk4 hkb4 hC4 hC5 hl4 hl5 HP hlt hf
          generalize row.getD f [] = al at *
          generalize row'.getD f [] = al' at *
          generalize eq2 al al' = v at *
          have HCE := Aside0.mk (fun (W : World) (h : TX2 w (.slice A1 rk.length c1) (.int .i64 st) (.slice (some ad) M.length c2) (.slice B1 rk'.length d1) (.int .i64 st') (.slice (some bd) M'.length d2) W) =>
            (show (W.cell? ⟨w.heap.size, 2, none⟩ = some (.slice (some ad) M.length c2) ∧ W.cell? ⟨w.heap.size + 1, 2, none⟩ = some (.slice (some bd) M'.length d2)) ∧ (W.cell? (ad.add q) = some (.slice (some ad4) row.length c3) ∧ W.cell? (bd.add q) = some (.slice (some bd4) row'.length d3)) ∧ (W.cell? (ad4.add f) = some (.slice A4 al.length c4) ∧ W.cell? (bd4.add f) = some (.slice B4 al'.length d4)) from
              ⟨⟨(blk_cell h.box 2).trans rfl, (blk_cell h.box' 2).trans rfl⟩, ⟨pw_cell_below h.hb HK.out, pw_cell_below h.hb HKB.out⟩, pw_cell_below h.hb HK4.out, pw_cell_below h.hb HKB4.out⟩))
          go_upto_region 9 with (fail)
          have HS0 := Aside0.mk ((HS.out).below (below_drew (Below.refl _ _)))
          cases v with
          | false =>
            have HVV := Aside0.mk (HF4.out rfl)
            go_region_held3 (fun W => (W.cell? ⟨w.heap.size, 2, none⟩ = some (.slice (some ad) M.length c2) ∧ W.cell? ⟨w.heap.size + 1, 2, none⟩ = some (.slice (some bd) M'.length d2)) ∧ (W.cell? (ad.add q) = some (.slice (some ad4) row.length c3) ∧ W.cell? (bd.add q) = some (.slice (some bd4) row'.length d3)) ∧ (W.cell? (ad4.add f) = some (.slice A4 al.length c4) ∧ W.cell? (bd4.add f) = some (.slice B4 al'.length d4)))
              (first | exact HCE.out _ HSa.out | exact HCE.out _ HS0.out | exact HCE.out _ HS.out | fail)
              (first | (go_at_call 68; (with_reducible refine (HC.out _ (HS0.out).hb).mono ?_); rintro E w2 ⟨rfl, hb⟩; have HSa := Aside0.mk ((HS0.out).below hb); clear hb) | fail)
            go_wp2
            go_ret
            exact ⟨by rw [HVV.out]; rfl, (HSa.out).hb⟩
          | true =>
            have HVV := Aside0.mk (HT4.out rfl)
            go_region_held3 (fun W => (W.cell? ⟨w.heap.size, 2, none⟩ = some (.slice (some ad) M.length c2) ∧ W.cell? ⟨w.heap.size + 1, 2, none⟩ = some (.slice (some bd) M'.length d2)) ∧ (W.cell? (ad.add q) = some (.slice (some ad4) row.length c3) ∧ W.cell? (bd.add q) = some (.slice (some bd4) row'.length d3)) ∧ (W.cell? (ad4.add f) = some (.slice A4 al.length c4) ∧ W.cell? (bd4.add f) = some (.slice B4 al'.length d4)))
              (first | exact HCE.out _ HSa.out | exact HCE.out _ HS0.out | exact HCE.out _ HS.out | fail)
              (first | (go_at_call 68; (with_reducible refine (HC.out _ (HS0.out).hb).mono ?_); rintro E w2 ⟨rfl, hb⟩; have HSa := Aside0.mk ((HS0.out).below hb); clear hb) | fail)
            go_wp2
            go_roundg (rk.length - (f + 1))
            case measure => have := HLF.out; omega
            case rel => exact ⟨f + 1, HLF.out, Nat.le_refl _, by rw [HKF.out], HSa, HVV⟩
        · obtain rfl : f = rk.length := by omega
          have HT6 := Aside0.mk (HT.out (eqF_all (by have := HR1.out; have := HR2.out; have := congrArg List.length HRE.out; omega) (fun i hi => HP.out i (by have := HR1.out; omega))))
          clear HP hlt hf hgg
          go_wp2
          go_roundg (M.length - (q + 1))
          case measure => have := HLT.out; omega
          case rel => exact ⟨q + 1, HLT.out, Nat.le_refl _, by rw [HKQ.out], HS, HT6⟩
    · obtain rfl : q = M.length := by omega
      have HVV := Aside0.mk (show R = true by rw [HV.out]; exact eqF_all HLM.out HP.out)
      clear HP hlt hq hgg
      go_wp2
      go_ret
      exact ⟨by rw [HVV.out]; rfl, (HS.out).hb⟩
end Go.Proofs.YtbmcigakiibncaaGreatDoor.H
namespace Go.Proofs.YtbmcigakiibncaaGreatDoor.H
open Go.RowKit Go.Proofs.YtbmcigakiibncaaGreatDoorW.PrintWords Go.Proofs.YtbmcigakiibncaaGreatDoorW.PrintLast Go.Proofs.YtbmcigakiibncaaGreatDoorW.PrintMore
set_option linter.unusedVariables false
set_option linter.unusedSimpArgs false
theorem TX2.cells {w W : World} {x y z x' y' z' : Value} (h : TX2 w x y z x' y' z' W) : (W.cell? ⟨w.heap.size, 0, none⟩ = some x ∧ W.cell? ⟨w.heap.size, 1, none⟩ = some y ∧ W.cell? ⟨w.heap.size, 2, none⟩ = some z) ∧ (W.cell? ⟨w.heap.size + 1, 0, none⟩ = some x' ∧ W.cell? ⟨w.heap.size + 1, 1, none⟩ = some y' ∧ W.cell? ⟨w.heap.size + 1, 2, none⟩ = some z') :=
  ⟨⟨(blk_cell h.box 0).trans rfl, (blk_cell h.box 1).trans rfl, (blk_cell h.box 2).trans rfl⟩, (blk_cell h.box' 0).trans rfl, (blk_cell h.box' 1).trans rfl, (blk_cell h.box' 2).trans rfl⟩
end Go.Proofs.YtbmcigakiibncaaGreatDoor.H
namespace Go.Proofs.YtbmcigakiibncaaGreatDoor.H
open Go.RowKit Go.Proofs.YtbmcigakiibncaaGreatDoorW.PrintWords Go.Proofs.YtbmcigakiibncaaGreatDoorW.PrintLast Go.Proofs.YtbmcigakiibncaaGreatDoorW.PrintMore
set_option linter.unusedVariables false
set_option linter.unusedSimpArgs false
theorem TX.cells {w W : World} {x y z : Value} (h : TX w x y z W) : W.cell? ⟨w.heap.size, 0, none⟩ = some x ∧ W.cell? ⟨w.heap.size, 1, none⟩ = some y ∧ W.cell? ⟨w.heap.size, 2, none⟩ = some z :=
  ⟨(blk_cell h.box 0).trans rfl, (blk_cell h.box 1).trans rfl, (blk_cell h.box 2).trans rfl⟩
theorem sameB_self (rk : List Int) (st : Int) (M : Mv) : sameB rk st M rk st M = auB rk st M := by
  unfold sameB
  rw [(eqI_iff rk rk).2 rfl, (eq4_iff M M).2 rfl]
  cases auB rk st M <;> simp
end Go.Proofs.YtbmcigakiibncaaGreatDoor.H
namespace Go.Proofs.YtbmcigakiibncaaGreatDoor.H
open Go.RowKit Go.Proofs.YtbmcigakiibncaaGreatDoorW.PrintWords Go.Proofs.YtbmcigakiibncaaGreatDoorW.PrintLast Go.Proofs.YtbmcigakiibncaaGreatDoorW.PrintMore
open Go.Proofs.YtbmcigakiibncaaGreatDoor.Q (S28 k28 z28 rd_T28)
set_option linter.unusedVariables false
set_option linter.unusedSimpArgs false
theorem rover_ev (rk : List Int) (N : Nat) : ∀ t : S28, nodes t ≤ N → N ≤ 20000 → Ev (fun k => Q.virgationref06_over.f k rk t.f0 t.f1) (overB rk t) := by
  induction N with
  | zero => intro t h; have := nodes_pos t; omega
  | succ N ih =>
    intro t h hN
    obtain ⟨s, l⟩ := t
    rw [nodes] at h
    have hll := lens_le (l := l)
    have loop : ∀ d j : Nat, l.length - j = d → j ≤ l.length → Ev (fun k => Q.virgationref06_over.l0 k rk l (l.length : Int) (j : Int)) (overL rk (l.drop j)) := by
      intro d
      induction d with
      | zero =>
        intro j hd hj
        refine ev_end fun k => ?_
        simp only [Q.virgationref06_over.l0]
        rw [if_neg (by omega), List.drop_eq_nil_of_le (by omega), overL]
      | succ d ihd =>
        intro j hd hj
        have hlt : j < l.length := by omega
        rw [dropT hlt, overL]
        have e1 := ih l[j] (by have := nodes_mem (List.getElem_mem hlt); omega) (by omega)
        have e2 := ihd (j + 1) (by omega) (by omega)
        rw [show ((j + 1 : Nat) : Int) = wrap64 ((j : Int) + 1) from (wrap_succ (i := (j : Int)) (by omega) (by omega)).symm] at e2
        refine ev_next (Ev.bind (f := fun k t => if t = true then Q.virgationref06_over.l0 k rk l (l.length : Int) (wrap64 ((j : Int) + 1)) else some false) e1 ?_) fun k => ?_
        · cases overB rk l[j] with
          | true => simpa using e2
          | false => simpa using Ev.now false
        · simp only [Q.virgationref06_over.l0]
          rw [if_pos (by omega), if_pos (by omega), if_pos (by omega), rdT_at hlt]
    have hgo : Ev (fun k => Q.virgationref06_over.j0 k rk false s l) (overL rk l) := by
      have e := loop l.length 0 (by omega) (by omega)
      rw [List.drop_zero] at e
      exact ev_next e fun k => by simp [Q.virgationref06_over.j0]
    have hno : Ev (fun k => Q.virgationref06_over.j0 k rk true s l) false := ev_end fun k => by simp [Q.virgationref06_over.j0]
    rw [overB]
    by_cases h3 : s = -1
    · subst h3
      by_cases h4 : l.length = 0
      · obtain rfl : l = [] := List.length_eq_zero_iff.1 h4
        refine ev_next hgo fun k => ?_
        simp only [Q.virgationref06_over.f]
        rw [if_neg (by omega), if_neg (by omega), if_pos trivial, if_neg (by simp), if_neg (by omega)]
      · rw [decide_eq_false h4, decide_eq_false (by omega : ¬ (0 : Int) ≤ -1)]
        simp only [Bool.and_false, Bool.false_and, Bool.or_false]
        refine ev_next hno fun k => ?_
        simp only [Q.virgationref06_over.f]
        rw [if_neg (by omega), if_neg (by omega), if_pos trivial, if_pos (by omega)]
    by_cases h1 : s < -1
    · rw [decide_eq_false h3, decide_eq_false (by omega : ¬ 0 ≤ s)]
      simp only [Bool.and_false, Bool.false_and, Bool.or_false]
      refine ev_next hno fun k => ?_
      simp only [Q.virgationref06_over.f]
      rw [if_pos h1]
    by_cases h2 : s ≥ (rk.length : Int)
    · rw [decide_eq_false (by omega : ¬ s < (rk.length : Int)), decide_eq_false h3]
      simp only [Bool.false_and, Bool.and_false, Bool.or_false]
      refine ev_next hno fun k => ?_
      simp only [Q.virgationref06_over.f]
      rw [if_neg h1, if_pos h2]
    · rw [decide_eq_false h3, decide_eq_true (by omega : 0 ≤ s), decide_eq_true (by omega : s < (rk.length : Int))]
      by_cases h5 : (l.length : Int) = rd rk s
      · rw [decide_eq_true h5]
        simp only [Bool.false_and, Bool.false_or, Bool.true_and]
        refine ev_next hgo fun k => ?_
        simp only [Q.virgationref06_over.f]
        rw [if_neg h1, if_neg h2, if_neg h3, if_pos (by omega), if_pos (by omega), if_pos (by omega), h5, bne_self_eq_false]
      · rw [decide_eq_false h5]
        simp only [Bool.false_and, Bool.false_or, Bool.and_false]
        refine ev_next hno fun k => ?_
        simp only [Q.virgationref06_over.f]
        rw [if_neg h1, if_neg h2, if_neg h3, if_pos (by omega), if_pos (by omega), if_pos (by omega), show ((l.length : Int) != rd rk s) = true by simpa using h5]
theorem nodesL_drop {l : List S28} {j : Nat} (h : j < l.length) : nodesL (l.drop j) = nodes l[j] + nodesL (l.drop (j + 1)) := by rw [dropT h, nodesL]
mutual
def lensT : S28 → Prop
  | ⟨_, l⟩ => l.length ≤ 9223372036854775807 ∧ lensTL l
def lensTL : List S28 → Prop
  | [] => True
  | t :: r => lensT t ∧ lensTL r
end
theorem lensTL_iff {l : List S28} : lensTL l ↔ ∀ t ∈ l, lensT t := by
  induction l with
  | nil => simp [lensTL]
  | cons a r ih => rw [lensTL, ih]; simp
theorem lensT_of {w : World} (N : Nat) : ∀ (t : S28) (A : Option Addr), nodes t ≤ N → Kd.C k28 w A t.f1.length t.f1 → lensT t := by
  induction N with
  | zero => intro t A h; have := nodes_pos t; omega
  | succ N ih =>
    intro t A h hC
    obtain ⟨s, l⟩ := t
    rw [nodes] at h
    rw [lensT]
    refine ⟨hC.2.1, lensTL_iff.2 fun t ht => ?_⟩
    obtain ⟨i, hi, rfl⟩ := List.mem_iff_getElem.1 ht
    obtain ⟨ad, A1, c1, e, _, _, _, h1⟩ := Q.at_T28 hC (i : Int) (by omega) (by show (i : Int) < (l.length : Int); omega)
    rw [rdT_at hi] at h1
    exact ih _ A1 (by have := nodes_mem ht; omega) h1
theorem depth_mem {l : List S28} {t : S28} (h : t ∈ l) : depth t ≤ depthL l := by
  induction l with
  | nil => cases h
  | cons a r ihr =>
    rw [depthL]
    rcases List.mem_cons.1 h with rfl | ht
    · omega
    · have := ihr ht; omega
theorem rnodes_ev (D : Nat) : ∀ (t : S28) (most : Nat), depth t ≤ D → most ≤ 20000 → lensT t → Ev (fun k => Q.virgationref06_Nodes.f k t.f0 t.f1 (most : Int)) ((min (nodes t) (most + 1) : Nat) : Int) := by
  induction D with
  | zero => intro t most h; cases t; rw [depth] at h; omega
  | succ D ih =>
    intro t most h hm hlen
    obtain ⟨s, l⟩ := t
    rw [lensT] at hlen
    have hl : l.length ≤ 9223372036854775807 := hlen.1
    have loop : ∀ d j n : Nat, l.length - j = d → j ≤ l.length → n ≤ most + 1 → Ev (fun k => Q.virgationref06_Nodes.l0 k (most : Int) (n : Int) (j : Int) s l) ((min (n + nodesL (l.drop j)) (most + 1) : Nat) : Int) := by
      intro d
      induction d with
      | zero =>
        intro j n hd hj hn
        refine ev_end fun k => ?_
        simp only [Q.virgationref06_Nodes.l0]
        rw [if_neg (by omega), List.drop_eq_nil_of_le (by omega), nodesL]
        congr 1
        omega
      | succ d ihd =>
        intro j n hd hj hn
        have hlt : j < l.length := by omega
        by_cases hnm : n ≤ most
        · have hdep : depth l[j] ≤ D := by
            rw [depth] at h
            have := depth_mem (List.getElem_mem hlt)
            omega
          have e1 := ih l[j] (most - n) hdep (by omega) (lensTL_iff.1 hlen.2 _ (List.getElem_mem hlt))
          have hp := nodes_pos l[j]
          refine ev_next (f := fun k => (Q.virgationref06_Nodes.f k (l[j]).f0 (l[j]).f1 ((most - n : Nat) : Int)).bind fun t => Q.virgationref06_Nodes.l0 k (most : Int) (wrap64 ((n : Int) + t)) ((j + 1 : Nat) : Int) s l) (Ev.bind e1 ?_) fun k => ?_
          · have e2 := ihd (j + 1) (n + min (nodes l[j]) (most - n + 1)) (by omega) (by omega) (by omega)
            rw [wr_id (by omega) (by omega), show (n : Int) + ((min (nodes l[j]) (most - n + 1) : Nat) : Int) = ((n + min (nodes l[j]) (most - n + 1) : Nat) : Int) by omega, nodesL_drop hlt]
            rw [show min (n + (nodes l[j] + nodesL (l.drop (j + 1)))) (most + 1) = min (n + min (nodes l[j]) (most - n + 1) + nodesL (l.drop (j + 1))) (most + 1) by omega]
            exact e2
          · simp only [Q.virgationref06_Nodes.l0]
            rw [if_pos (by omega), if_pos (by omega), if_pos (by omega), rdT_at hlt, wrap_succ (by omega) (by omega), wr_id (x := (most : Int) - (n : Int)) (by omega) (by omega), show (most : Int) - (n : Int) = ((most - n : Nat) : Int) by omega]
            rfl
        · refine ev_end fun k => ?_
          simp only [Q.virgationref06_Nodes.l0]
          rw [if_pos (by omega), if_neg (by omega)]
          congr 1
          omega
    have e := loop l.length 0 1 (by omega) (by omega) (by omega)
    rw [List.drop_zero] at e
    rw [nodes, show nodesL l + 1 = 1 + nodesL l by omega]
    refine ev_next e fun k => ?_
    simp only [Q.virgationref06_Nodes.f]
    rfl
theorem depthL_drop {l : List S28} {j : Nat} (h : j < l.length) : depthL (l.drop j) = max (depth l[j]) (depthL (l.drop (j + 1))) := by rw [dropT h, depthL]
theorem rdepth_ev (N : Nat) : ∀ t : S28, nodes t ≤ N → N ≤ 20000 → Ev (fun k => Q.virgationref06_Depth.f k t.f0 t.f1) ((depth t : Nat) : Int) := by
  induction N with
  | zero => intro t h; have := nodes_pos t; omega
  | succ N ih =>
    intro t h hN
    obtain ⟨s, l⟩ := t
    rw [nodes] at h
    have hll := lens_le (l := l)
    have loop : ∀ d j m : Nat, l.length - j = d → j ≤ l.length → m ≤ 20000 → Ev (fun k => Q.virgationref06_Depth.l0 k (m : Int) l (l.length : Int) (j : Int)) ((max m (depthL (l.drop j)) + 1 : Nat) : Int) := by
      intro d
      induction d with
      | zero =>
        intro j m hd hj hm
        refine ev_end fun k => ?_
        simp only [Q.virgationref06_Depth.l0]
        rw [if_neg (by omega), List.drop_eq_nil_of_le (by omega), depthL, wrap_succ (by omega) (by omega)]
        congr 1
        omega
      | succ d ihd =>
        intro j m hd hj hm
        have hlt : j < l.length := by omega
        have hnj := nodes_mem (List.getElem_mem hlt)
        have e1 := ih l[j] (by omega) (by omega)
        have hdj := depth_le l[j]
        refine ev_next (f := fun k => (Q.virgationref06_Depth.f k (l[j]).f0 (l[j]).f1).bind fun t => Q.virgationref06_Depth.l0 k (mx (m : Int) t) l (l.length : Int) ((j + 1 : Nat) : Int)) (Ev.bind e1 ?_) fun k => ?_
        · have e2 := ihd (j + 1) (max m (depth l[j])) (by omega) (by omega) (by omega)
          rw [depthL_drop hlt, show max m (max (depth l[j]) (depthL (l.drop (j + 1)))) = max (max m (depth l[j])) (depthL (l.drop (j + 1))) by omega]
          rw [show mx (m : Int) ((depth l[j] : Nat) : Int) = ((max m (depth l[j]) : Nat) : Int) by unfold mx; split <;> omega]
          exact e2
        · simp only [Q.virgationref06_Depth.l0]
          rw [if_pos (by omega), if_pos (by omega), if_pos (by omega), rdT_at hlt, wrap_succ (by omega) (by omega)]
          rfl
    have e := loop l.length 0 0 (by omega) (by omega) (by omega)
    rw [List.drop_zero] at e
    rw [depth, show depthL l + 1 = max 0 (depthL l) + 1 by omega]
    refine ev_next e fun k => ?_
    simp only [Q.virgationref06_Depth.f]
    rfl
theorem ris_ev (rk : List Int) (t : S28) (hl : lensT t) : Ev (fun k => Q.virgationref06_Is.f k rk t.f0 t.f1) (treeOk rk t) := by
  unfold Q.virgationref06_Is.f treeOk
  refine Ev.bind (rnodes_ev _ t 20000 (Nat.le_refl _) (Nat.le_refl _) hl) ?_
  by_cases h1 : nodes t ≤ 20000
  · rw [decide_eq_true h1, Bool.true_and]
    simp only [if_pos (show ((min (nodes t) (20000 + 1) : Nat) : Int) ≤ 20000 by omega)]
    refine Ev.bind (rdepth_ev _ t (Nat.le_refl _) h1) ?_
    by_cases h2 : depth t ≤ 200
    · rw [decide_eq_true h2, Bool.true_and]
      simp only [if_pos (show ((depth t : Nat) : Int) ≤ 200 by omega)]
      exact Ev.bind (rover_ev rk _ t (Nat.le_refl _) h1) (ev_end fun k => rfl)
    · rw [decide_eq_false h2, Bool.false_and]
      simp only [if_neg (show ¬ ((depth t : Nat) : Int) ≤ 200 by omega)]
      exact ev_end fun k => rfl
  · rw [decide_eq_false h1, Bool.false_and, Bool.false_and]
    simp only [if_neg (show ¬ ((min (nodes t) (20000 + 1) : Nat) : Int) ≤ 20000 by omega)]
    exact ev_end fun k => rfl
theorem rtis_calls (rk : List Int) (t : S28) (A1 : Option Addr) (c1 : Nat) (A : Option Addr) (c : Nat) (w : World) (hr : Kd.C (Kd.int .i64) w A1 rk.length rk) (hc1 : rk.length ≤ c1) (hC : Kd.C k28 w A t.f1.length t.f1) (hc : t.f1.length ≤ c) :
    Calls Tryz.prog 29 #[.slice A1 rk.length c1, .agg #[.int .i64 t.f0, .slice A t.f1.length c]] w fun E w' => E = .returned (.bool (treeOk rk t)) ∧ Below w.heap.size w w' := by
  obtain ⟨k, hk⟩ := (ris_ev rk t (lensT_of _ t A (Nat.le_refl _) hC)).rounds
  exact Q.virgationref06_Is.calls k A1 c1 rk t.f0 A c t.f1 _ w hr hc1 hC hc hk
end Go.Proofs.YtbmcigakiibncaaGreatDoor.H
namespace Go.Proofs.YtbmcigakiibncaaGreatDoor.H
open Go.RowKit Go.Proofs.YtbmcigakiibncaaGreatDoorW.PrintWords Go.Proofs.YtbmcigakiibncaaGreatDoorW.PrintLast Go.Proofs.YtbmcigakiibncaaGreatDoorW.PrintMore
open Go.Proofs.YtbmcigakiibncaaGreatDoor.Q (S28 k28 z28 rd_T28 at_T28)
set_option linter.unusedVariables false
set_option linter.unusedSimpArgs false
def stL (n : Nat) (p : Nat → Bool) : List Int := ((List.range n).filter p).map fun (i : Nat) => (i : Int)
theorem bits_stL {n o : Nat} {p : Nat → Bool} (hn : n ≤ 6) (h : IsMask n p o) : bitsL o = stL n p := by
  unfold bitsL stL
  congr 1
  have h1 : (List.range 6).filter (fun i => o.testBit i) = (List.range 6).filter (fun i => decide (i < n) && p i) := List.filter_congr fun i hi => h.2 i (List.mem_range.1 hi)
  rw [h1]
  have key : ∀ m, n ≤ m → (List.range m).filter (fun i => decide (i < n) && p i) = (List.range n).filter p := by
    intro m
    induction m with
    | zero => intro hm; obtain rfl : n = 0 := by omega
              rfl
    | succ m ih =>
      intro hm
      rcases Nat.lt_or_ge m n with hlt | hge
      · obtain rfl : n = m + 1 := by omega
        exact List.filter_congr fun i hi => by rw [decide_eq_true (List.mem_range.1 hi), Bool.true_and]
      · rw [List.range_succ, List.filter_append, ih hge]
        simp [show ¬ m < n by omega]
  exact key 6 hn
def stV (rk : List Int) (st : Int) (M : Mv) (mode : Int) (t : S28) : List Int := if stErr rk st M mode t = 0 then stL M.length (accG M (decide (mode = 0)) t) else []
theorem stErr_zero {rk : List Int} {st : Int} {M : Mv} {mode : Int} {t : S28} (h : stErr rk st M mode t = 0) : auB rk st M = true ∧ treeOk rk t = true ∧ (mode = 0 ∨ mode = 1) := by
  unfold stErr at h
  cases h1 : auB rk st M with
  | false => rw [h1] at h; simp at h
  | true =>
    cases h2 : treeOk rk t with
    | false => rw [h1, h2] at h; simp at h
    | true =>
      rw [h1, h2, if_pos rfl, if_pos rfl] at h
      refine ⟨rfl, rfl, ?_⟩
      apply Classical.byContradiction
      intro hc
      rw [if_neg hc] at h
      cases h
def StE (rk : List Int) (st : Int) (M : Mv) (mode : Int) (t : S28) (w : World) (E : Ending) (w' : World) : Prop :=
  ∃ (A : Option Addr) (c : Nat), E = .returned (.tuple #[.slice A (stV rk st M mode t).length c, .int .i64 (stErr rk st M mode t)]) ∧ (stV rk st M mode t).length ≤ c ∧ Kd.C (Kd.int .i64) w' A (stV rk st M mode t).length (stV rk st M mode t) ∧ Below w.heap.size w w'
theorem StE.of {rk : List Int} {st : Int} {M : Mv} {mode : Int} {t : S28} {w w' : World} {l : List Int} {er : Int} {A : Option Addr} {c : Nat} (hv : stV rk st M mode t = l) (he : stErr rk st M mode t = er) (h : l.length ≤ c) (hC : Kd.C (Kd.int .i64) w' A l.length l) (hb : Below w.heap.size w w') :
    StE rk st M mode t w (.returned (.tuple #[.slice A l.length c, .int .i64 er])) w' := by
  subst hv he
  exact ⟨A, c, rfl, h, hC, hb⟩
theorem statesE_calls (rk : List Int) (M : Mv) (st mode : Int) (t : S28) (A1 : Option Addr) (c1 : Nat) (A2 : Option Addr) (c2 : Nat) (A : Option Addr) (c : Nat) (w : World)
    (hr : Kd.C (Kd.int .i64) w A1 rk.length rk) (hc1 : rk.length ≤ c1) (hM : Kd.C kA3 w A2 M.length M) (hC : Kd.C k28 w A t.f1.length t.f1) (hc : t.f1.length ≤ c) (hT : Tab w) :
    Calls Tryz.prog 13 #[.agg #[.slice A1 rk.length c1, .int .i64 st, .slice A2 M.length c2], .int .i64 mode, .agg #[.int .i64 t.f0, .slice A t.f1.length c]] w (StE rk st M mode t w) := by
  refine (statesG_calls rk M st mode t A1 c1 A2 c2 A c w hr hc1 hM hC hc hT).mono ?_
  rintro E w' ⟨ys, A', c', rfl, h1, h2, h3, h4, h5⟩
  have e : ys = stV rk st M mode t := by
    unfold stV
    by_cases h : stErr rk st M mode t = 0
    · rw [if_pos h]
      obtain ⟨o, hm, rfl⟩ := h4 h
      exact bits_stL (auOk (stErr_zero h).1).nM hm
    · rw [if_neg h]; exact h5 h
  subst e
  exact ⟨A', c', rfl, h1, h2, h3⟩
end Go.Proofs.YtbmcigakiibncaaGreatDoor.H
namespace Go.Proofs.YtbmcigakiibncaaGreatDoor.H
open Go.RowKit Go.Proofs.YtbmcigakiibncaaGreatDoorW.PrintWords Go.Proofs.YtbmcigakiibncaaGreatDoorW.PrintLast Go.Proofs.YtbmcigakiibncaaGreatDoorW.PrintMore
open Go.Proofs.YtbmcigakiibncaaGreatDoor.Q (S28 k28 z28 rd_T28 at_T28)
set_option linter.unusedVariables false
set_option linter.unusedSimpArgs false
theorem AT2.cells {w W : World} {x y z s v : Value} (h : AT2 w W #[x, y, z] #[s, v]) : (W.cell? ⟨w.heap.size, 0, none⟩ = some x ∧ W.cell? ⟨w.heap.size, 1, none⟩ = some y ∧ W.cell? ⟨w.heap.size, 2, none⟩ = some z) ∧ (W.cell? ⟨w.heap.size + 1, 0, none⟩ = some s ∧ W.cell? ⟨w.heap.size + 1, 1, none⟩ = some v) :=
  ⟨box3_cells h.h1, box2_cells h.h2⟩
end Go.Proofs.YtbmcigakiibncaaGreatDoor.H
namespace Go.Proofs.YtbmcigakiibncaaGreatDoor.H
open Go.RowKit Go.Proofs.YtbmcigakiibncaaGreatDoorW.PrintWords Go.Proofs.YtbmcigakiibncaaGreatDoorW.PrintLast Go.Proofs.YtbmcigakiibncaaGreatDoorW.PrintMore
open Go.Proofs.YtbmcigakiibncaaGreatDoor.Q (S28 k28 z28 rd_T28 at_T28)
set_option linter.unusedVariables false
set_option linter.unusedSimpArgs false
theorem maskF_bit (i : Nat) : ∀ (l : List Nd) (m : Nat), (maskF m l).testBit i = (m.testBit i || l.any fun x => spotN x == i)
  | [], m => by simp [maskF]
  | x :: r, m => by
    show (maskF (m ||| 2 ^ spotN x) r).testBit i = _
    rw [maskF_bit i r, Nat.testBit_or, Nat.testBit_two_pow, List.any_cons, Bool.or_assoc]
    rfl
theorem maskN_bit {i : Nat} {l : List Nd} : (maskN l).testBit i = true ↔ ∃ x ∈ l, spotN x = i := by
  unfold maskN
  rw [maskF_bit, Nat.zero_testBit, Bool.false_or, List.any_eq_true]
  constructor
  · rintro ⟨x, hx, h⟩; exact ⟨x, hx, beq_iff_eq.1 h⟩
  · rintro ⟨x, hx, h⟩; exact ⟨x, hx, beq_iff_eq.2 h⟩
theorem needI_spot {x : Nd} (h : InN x) : needI (spotN x) = x := by
  obtain ⟨a, b⟩ := x
  unfold InN at h
  unfold needI spotN
  simp only at h ⊢
  have e1 : (((a * 6 + b).toNat / 6 : Nat) : Int) = a := by omega
  have e2 : (((a * 6 + b).toNat % 6 : Nat) : Int) = b := by omega
  rw [e1, e2]
theorem spot_needI (i : Nat) : spotN (needI i) = i := by
  unfold needI spotN
  simp only
  omega
theorem unN_inj {a b : Nat} (ha : a < 16777216) (hb : b < 16777216) (h : unN a = unN b) : a = b := by
  have h1 : (unN a).map spotN = (unN b).map spotN := by rw [h]
  unfold unN at h1
  rw [List.map_map, List.map_map] at h1
  have e : (spotN ∘ needI) = id := by funext i; exact spot_needI i
  rw [e, List.map_id, List.map_id] at h1
  refine mask_ext ha hb fun i hi => ?_
  have := (bitsN_mem (m := a) (i := i))
  rw [h1, bitsN_mem] at this
  rw [Bool.eq_iff_iff]
  constructor
  · intro h2; exact (this.2 ⟨hi, h2⟩).2
  · intro h2; exact (this.1 ⟨hi, h2⟩).2
theorem masks_lt {al : List (List Nd)} (h : ∀ l ∈ al, ∀ x ∈ l, InN x) : ∀ m ∈ al.map maskN, m < 16777216 := by
  intro m hm
  obtain ⟨l, hl, rfl⟩ := List.mem_map.1 hm
  exact maskN_lt (h l hl)
theorem dual_take {al : List (List Nd)} (h : dualOk al = true) : dualD al = sortL ((hitsOf al).map unN) := by
  unfold dualD
  rw [List.take_of_length_le (by have := of_decide_eq_true h; omega)]
theorem dual_mem {al : List (List Nd)} (h : dualOk al = true) {l : List Nd} : l ∈ dualD al ↔ ∃ T ∈ hitsOf al, l = unN T := by
  rw [dual_take h, (sortL_perm _).mem_iff, List.mem_map]
  constructor
  · rintro ⟨T, h1, h2⟩; exact ⟨T, h1, h2.symm⟩
  · rintro ⟨T, h1, h2⟩; exact ⟨T, h1, h2.symm⟩
theorem upN_of {l : List Nd} (h : l.Pairwise fun x y => befI x y < 0) : upN l = true := by
  unfold upN
  refine range_true fun i hi => decide_eq_true ?_
  rw [List.getD_eq_getElem?_getD, List.getD_eq_getElem?_getD, List.getElem?_eq_getElem (show i < l.length by omega), List.getElem?_eq_getElem (show i + 1 < l.length by omega)]
  exact (List.pairwise_iff_getElem.1 h) i (i + 1) (by omega) (by omega) (by omega)
theorem upL_of {l : List (List Nd)} (h : l.Pairwise fun x y => cmpL x y < 0) : upL l = true := by
  unfold upL
  refine range_true fun i hi => decide_eq_true ?_
  rw [List.getD_eq_getElem?_getD, List.getD_eq_getElem?_getD, List.getElem?_eq_getElem (show i < l.length by omega), List.getElem?_eq_getElem (show i + 1 < l.length by omega)]
  exact (List.pairwise_iff_getElem.1 h) i (i + 1) (by omega) (by omega) (by omega)
theorem befI_needI {i j : Nat} (h : i < j) : befI (needI i) (needI j) < 0 := by
  unfold befI needI
  simp only
  split <;> omega
theorem unN_up (T : Nat) : (unN T).Pairwise fun x y => befI x y < 0 := by
  unfold unN
  rw [List.pairwise_map]
  have h1 : (bitsN T).Pairwise (· < ·) := by
    unfold bitsN
    exact List.Pairwise.sublist List.filter_sublist List.pairwise_lt_range
  exact h1.imp fun h => befI_needI h
theorem strict_of {l : List (List Nd)} (h1 : l.Pairwise leL) (h2 : l.Nodup) : l.Pairwise fun x y => cmpL x y < 0 := by
  refine (h1.and h2).imp fun h => ?_
  rcases leL_iff.1 h.1 with h3 | h3
  · exact h3
  · exact absurd h3 h.2
theorem nodup_map_inj {α β : Type} {f : α → β} : ∀ {l : List α}, (∀ a ∈ l, ∀ b ∈ l, f a = f b → a = b) → l.Nodup → (l.map f).Nodup
  | [], _, _ => List.nodup_nil
  | a :: r, h, hn => by
    rw [List.map_cons, List.nodup_cons]
    refine ⟨fun hm => ?_, nodup_map_inj (fun x hx y hy => h x (List.mem_cons_of_mem _ hx) y (List.mem_cons_of_mem _ hy)) (List.nodup_cons.1 hn).2⟩
    obtain ⟨b, hb, e⟩ := List.mem_map.1 hm
    have := h b (List.mem_cons_of_mem _ hb) a (List.mem_cons_self ..) e
    subst this
    exact (List.nodup_cons.1 hn).1 hb
theorem dual_up {al : List (List Nd)} (hin : ∀ l ∈ al, ∀ x ∈ l, InN x) (hd : dualOk al = true) : (dualD al).Pairwise fun x y => cmpL x y < 0 := by
  have hlt := masks_lt hin
  rw [dual_take hd]
  refine strict_of (sortL_sorted _) ((sortL_perm _).nodup_iff.2 (nodup_map_inj (fun a ha b hb e => unN_inj (hits_lt hlt a ha) (hits_lt hlt b hb) e) (hits_nodup _ hlt)))
theorem dual_valid {r n : Int} {al : List (List Nd)} (hr : r ≤ 4) (hn : n ≤ 6) (h : altsOk r n al = true) (hd : dualOk al = true) : altsOk r n (dualD al) = true := by
  unfold altsOk at h ⊢
  simp only [Bool.and_eq_true, decide_eq_true_eq, List.all_eq_true] at h ⊢
  have hnb : ∀ l ∈ al, ∀ x ∈ l, nbad r n x = false := by
    intro l hl x hx
    have h2 := h.1.2 l hl
    unfold listOk at h2
    simp only [Bool.and_eq_true, Bool.not_eq_true', decide_eq_true_eq] at h2
    cases hb : nbad r n x with
    | false => rfl
    | true => have := List.any_eq_true.2 ⟨x, hx, hb⟩; rw [h2.1.2] at this; cases this
  have hin : ∀ l ∈ al, ∀ x ∈ l, InN x := by
    intro l hl x hx
    have := hnb l hl x hx
    unfold nbad at this
    simp only [Bool.or_eq_false_iff, decide_eq_false_iff_not] at this
    unfold InN
    omega
  have hlt := masks_lt hin
  refine ⟨⟨?_, fun l hl => ?_⟩, upL_of (dual_up hin hd)⟩
  · rw [dual_take hd, (sortL_perm _).length_eq, List.length_map]
    exact of_decide_eq_true hd
  · obtain ⟨T, hT, rfl⟩ := (dual_mem hd).1 hl
    obtain ⟨t1, t2, t3⟩ := (hits_iff _ hlt).1 hT
    unfold listOk
    simp only [Bool.and_eq_true, decide_eq_true_eq, Bool.not_eq_true']
    refine ⟨⟨(unN_small T).1, ?_⟩, upN_of (unN_up T)⟩
    cases hb : (unN T).any (nbad r n) with
    | false => rfl
    | true =>
      obtain ⟨x, hx, hx2⟩ := List.any_eq_true.1 hb
      obtain ⟨i, hi, rfl⟩ := List.mem_map.1 hx
      obtain ⟨m, hm, e⟩ := (needed_iff t1).1 t3 i (bitsN_mem.1 hi).2
      obtain ⟨l, hl, rfl⟩ := List.mem_map.1 hm
      obtain ⟨y, hy, hs⟩ := maskN_bit.1 (and_one.1 e).1.1
      rw [← hs, needI_spot (hin l hl y hy), hnb l hl y hy] at hx2
      cases hx2
theorem rowD_at (row : List (List (List Nd))) {f : Nat} (h : f < row.length) : (rowD row).getD f [] = dualD (row.getD f []) := by
  unfold rowD
  rw [List.getD_eq_getElem?_getD, List.getElem?_map, List.getElem?_eq_getElem h, List.getD_eq_getElem?_getD, List.getElem?_eq_getElem h]; rfl
theorem mvOkD_at {M : Mv} (h : mvOkD M = true) {row : List (List (List Nd))} (hr : row ∈ M) {a : List (List Nd)} (ha : a ∈ row) : dualOk a = true :=
  List.all_eq_true.1 (List.all_eq_true.1 h row hr) a ha
theorem auB_dual {rk : List Int} {st : Int} {M : Mv} (h : auB rk st M = true) (hd : mvOkD M = true) : auB rk st (M.map rowD) = true := by
  have ok := auOk h
  unfold auB at h ⊢
  simp only [Bool.and_eq_true, decide_eq_true_eq, List.length_map] at h ⊢
  obtain ⟨⟨⟨⟨⟨h1, h2⟩, h3⟩, h4⟩, h5⟩, h6⟩ := h
  refine ⟨⟨⟨⟨⟨h1, h2⟩, h3⟩, h4⟩, h5⟩, ?_⟩
  rw [List.all_eq_true] at h6 ⊢
  intro row' hr'
  obtain ⟨row, hr, rfl⟩ := List.mem_map.1 hr'
  have h7 := h6 row hr
  unfold mrowOk at h7 ⊢
  simp only [Bool.and_eq_true, decide_eq_true_eq, List.all_eq_true, List.mem_range] at h7 ⊢
  refine ⟨by unfold rowD; rw [List.length_map]; exact h7.1, fun f hf => ?_⟩
  rw [rowD_at row (by omega)]
  have hrk : rd rk (f : Int) ≤ 4 := (ok.rks _ (rd_mem (by omega))).2
  exact dual_valid hrk (by omega) (h7.2 f hf) (mvOkD_at hd hr (getD_memX [] (show f < row.length by omega)))
end Go.Proofs.YtbmcigakiibncaaGreatDoor.H
namespace Go.Proofs.YtbmcigakiibncaaGreatDoor.H
open Go.RowKit
set_option linter.unusedVariables false
set_option linter.unusedSimpArgs false
def eqN (x y : Nd) : Bool := decide (x.f0 = y.f0) && decide (x.f1 = y.f1)
def withinN (a b : List Nd) : Bool := a.all fun x => b.any fun y => eqN x y
def Asc (l : List Nd) : Prop := l.Pairwise (fun x y => befI x y < 0) ∧ ∀ x ∈ l, InN x
theorem mem_unN {T : Nat} {x : Nd} (hx : InN x) : x ∈ unN T ↔ T.testBit (spotN x) = true := by
  constructor
  · intro h
    obtain ⟨j, hj, rfl⟩ := List.mem_map.1 h
    rw [spot_needI]; exact (bitsN_mem.1 hj).2
  · intro h
    exact List.mem_map.2 ⟨spotN x, bitsN_mem.2 ⟨(spot_lt hx).1, h⟩, needI_spot hx⟩
theorem asc_eq : ∀ {a b : List Nd}, a.Pairwise (fun x y => befI x y < 0) → b.Pairwise (fun x y => befI x y < 0) → (∀ x, x ∈ a ↔ x ∈ b) → a = b
  | [], [], _, _, _ => rfl
  | [], y :: b, _, _, h => absurd ((h y).2 (List.mem_cons_self ..)) (by simp)
  | x :: a, [], _, _, h => absurd ((h x).1 (List.mem_cons_self ..)) (by simp)
  | x :: a, y :: b, ha, hb, h => by
    have e : x = y := by
      rcases List.mem_cons.1 ((h x).1 (List.mem_cons_self ..)) with e | h1
      · exact e
      rcases List.mem_cons.1 ((h y).2 (List.mem_cons_self ..)) with e | h2
      · exact e.symm
      have h3 := (List.pairwise_cons.1 hb).1 x h1
      have h4 := (List.pairwise_cons.1 ha).1 y h2
      have := befI_neg.1 h3
      omega
    subst e
    congr 1
    refine asc_eq (List.pairwise_cons.1 ha).2 (List.pairwise_cons.1 hb).2 fun z => ?_
    have hx1 : x ∉ a := fun hm => by have := (List.pairwise_cons.1 ha).1 x hm; rw [befI_self] at this; omega
    have hx2 : x ∉ b := fun hm => by have := (List.pairwise_cons.1 hb).1 x hm; rw [befI_self] at this; omega
    constructor
    · intro hz
      rcases List.mem_cons.1 ((h z).1 (List.mem_cons_of_mem _ hz)) with rfl | h1
      · exact absurd hz hx1
      · exact h1
    · intro hz
      rcases List.mem_cons.1 ((h z).2 (List.mem_cons_of_mem _ hz)) with rfl | h1
      · exact absurd hz hx2
      · exact h1
theorem unN_maskN {l : List Nd} (h : Asc l) : unN (maskN l) = l := by
  refine asc_eq (unN_up _) h.1 fun x => ?_
  constructor
  · intro hx
    obtain ⟨i, hi, rfl⟩ := List.mem_map.1 hx
    obtain ⟨y, hy, hs⟩ := maskN_bit.1 (bitsN_mem.1 hi).2
    rw [← hs, needI_spot (h.2 y hy)]; exact hy
  · intro hx
    exact (mem_unN (h.2 x hx)).2 (maskN_bit.2 ⟨x, hx, rfl⟩)
def keepB (l : List (List Nd)) (i : Nat) : Bool := (List.range l.length).all fun k => decide (i = k) || !withinN (l.getD k []) (l.getD i [])
def smallest (l : List (List Nd)) : List (List Nd) := ((List.range l.length).filter (keepB l)).map fun i => l.getD i []
theorem smallest_sub (l : List (List Nd)) : (smallest l).Sublist l := by
  have h1 : ((List.range l.length).map fun i => l.getD i []) = l := by
    apply List.ext_getElem (by simp)
    intro i h1 h2
    simp [List.getD_eq_getElem?_getD, h2]
  unfold smallest
  conv => rhs; rw [← h1]
  exact List.filter_sublist.map _
theorem up_nodup {l : List (List Nd)} (h : l.Pairwise fun x y => cmpL x y < 0) : l.Nodup := h.imp fun hc e => by subst e; rw [cmpL_self] at hc; omega
end Go.Proofs.YtbmcigakiibncaaGreatDoor.H
namespace Go.Proofs.YtbmcigakiibncaaGreatDoor.H
open Go.RowKit Go.Proofs.YtbmcigakiibncaaGreatDoorW.PrintWords Go.Proofs.YtbmcigakiibncaaGreatDoorW.PrintLast Go.Proofs.YtbmcigakiibncaaGreatDoorW.PrintMore
set_option linter.unusedVariables false
set_option linter.unusedSimpArgs false
theorem dropN {l : List Nd} {j : Nat} (h : j < l.length) : l.drop j = l.getD j zN :: l.drop (j + 1) := by
  rw [List.drop_eq_getElem_cons h]; simp [List.getD_eq_getElem?_getD, h]
theorem eqN_eta (x y : Nd) : (x.f0 == y.f0 && (x.f1 == y.f1)) = eqN x y := by
  unfold eqN
  rw [Bool.eq_iff_iff]; simp
theorem withinR_l1 (a b : List Nd) (hb : b.length ≤ 9223372036854775806) (x : Nd) (i : Nat) (r : Bool) (next : Ev (fun k => Q.virgationref09_Within.l0 k b a (a.length : Int) (wrap64 ((i : Int) + 1))) r) (d : Nat) :
    ∀ (j : Nat) (th : Bool), b.length - j = d → j ≤ b.length → Ev (fun k => Q.virgationref09_Within.l1 k b th a (a.length : Int) (i : Int) b (b.length : Int) (j : Int) x.f0 x.f1) ((th || (b.drop j).any fun y => eqN x y) && r) := by
  induction d with
  | zero =>
    intro j th hd hj
    rw [List.drop_eq_nil_of_le (by omega)]
    cases th with
    | true =>
      refine ev_next next fun k => ?_
      simp only [Q.virgationref09_Within.l1]
      rw [if_neg (by omega), if_pos trivial]
    | false =>
      refine ev_end fun k => ?_
      simp only [Q.virgationref09_Within.l1]
      rw [if_neg (by omega), if_neg (by simp)]; rfl
  | succ d ih =>
    intro j th hd hj
    have hlt : j < b.length := by omega
    rw [dropN hlt, List.any_cons]
    cases th with
    | true =>
      refine ev_next (ih (j + 1) true (by omega) (by omega)) fun k => ?_
      simp only [Q.virgationref09_Within.l1]
      rw [if_pos (by omega), if_pos (by omega), if_pos (by omega), if_pos trivial, wrap_succ (by omega) (by omega)]
      rfl
    | false =>
      rw [Bool.false_or]
      refine ev_next (ih (j + 1) (eqN x (b.getD j zN)) (by omega) (by omega)) fun k => ?_
      simp only [Q.virgationref09_Within.l1]
      rw [if_pos (by omega), if_pos (by omega), if_pos (by omega), if_neg (by simp), wrap_succ (by omega) (by omega), rdN_at, eqN_eta]
      rfl
theorem withinR_ev (a b : List Nd) (ha : a.length ≤ 9223372036854775806) (hb : b.length ≤ 9223372036854775806) : Ev (fun k => Q.virgationref09_Within.f k a b) (withinN a b) := by
  have loop : ∀ d i : Nat, a.length - i = d → i ≤ a.length → Ev (fun k => Q.virgationref09_Within.l0 k b a (a.length : Int) (i : Int)) ((a.drop i).all fun x => b.any fun y => eqN x y) := by
    intro d
    induction d with
    | zero =>
      intro i hd hi
      refine ev_end fun k => ?_
      simp only [Q.virgationref09_Within.l0]
      rw [if_neg (by omega), List.drop_eq_nil_of_le (by omega)]; rfl
    | succ d ih =>
      intro i hd hi
      have hlt : i < a.length := by omega
      rw [dropN hlt, List.all_cons]
      have h2 := ih (i + 1) (by omega) (by omega)
      rw [show ((i + 1 : Nat) : Int) = wrap64 ((i : Int) + 1) from (wrap_succ (i := (i : Int)) (by omega) (by omega)).symm] at h2
      have h1 := withinR_l1 a b hb (a.getD i zN) i _ h2 _ 0 false rfl (Nat.zero_le _)
      rw [List.drop_zero, Bool.false_or] at h1
      refine ev_next h1 fun k => ?_
      simp only [Q.virgationref09_Within.l0]
      rw [if_pos (by omega), if_pos (by omega), if_pos (by omega), rdN_at]
      rfl
  have h := loop a.length 0 (by omega) (by omega)
  rw [List.drop_zero] at h
  exact h
theorem withinR_calls (a b : List Nd) (A : Option Addr) (c : Nat) (B : Option Addr) (d : Nat) (w : World) (hA : Kd.C Q.k83 w A a.length a) (hc : a.length ≤ c) (hB : Kd.C Q.k83 w B b.length b) (hd : b.length ≤ d) (ha : a.length ≤ 1000) (hb : b.length ≤ 1000) :
    Calls Tryz.prog 95 #[.slice A a.length c, .slice B b.length d] w fun E w' => E = .returned (.bool (withinN a b)) ∧ Below w.heap.size w w' := by
  obtain ⟨k, hk⟩ := (withinR_ev a b (by omega) (by omega)).rounds
  exact Q.virgationref09_Within.calls k A c a B d b _ w hA hc hB hd hk
end Go.Proofs.YtbmcigakiibncaaGreatDoor.H
namespace Go.Proofs.YtbmcigakiibncaaGreatDoor.H
open Go.RowKit Go.Proofs.YtbmcigakiibncaaGreatDoorW.PrintWords Go.Proofs.YtbmcigakiibncaaGreatDoorW.PrintLast Go.Proofs.YtbmcigakiibncaaGreatDoorW.PrintMore
set_option linter.unusedVariables false
set_option linter.unusedSimpArgs false
abbrev Hd := Option Addr × Nat × Nat
def encH (p : Hd) : Value := .slice p.1 p.2.1 p.2.2
def kH : Kd Hd := Kd.scalar encH (fun _ => rfl)
def zH : Hd := (none, 0, 0)
def Rel (P : Hd → List Nd → Prop) (hs : List Hd) (xs : List (List Nd)) : Prop := hs.length = xs.length ∧ ∀ j, j < xs.length → P (hs.getD j zH) (xs.getD j [])
theorem Rel.nil (P : Hd → List Nd → Prop) : Rel P [] [] := ⟨rfl, fun j h => absurd h (Nat.not_lt_zero _)⟩
theorem getD_snoc {α : Type} (l : List α) (x d : α) (q : Nat) : (l ++ [x]).getD q d = if q = l.length then x else l.getD q d := getD_app l x d q
theorem Rel.snoc {P : Hd → List Nd → Prop} {hs : List Hd} {xs : List (List Nd)} {h : Hd} {x : List Nd} (hr : Rel P hs xs) (hp : P h x) : Rel P (hs ++ [h]) (xs ++ [x]) := by
  refine ⟨by rw [List.length_append, List.length_append, hr.1]; rfl, fun j hj => ?_⟩
  rw [List.length_append, List.length_singleton] at hj
  rw [getD_snoc, getD_snoc, hr.1]
  split
  · exact hp
  · exact hr.2 j (by omega)
theorem Rel.imp {P P' : Hd → List Nd → Prop} {hs : List Hd} {xs : List (List Nd)} (hr : Rel P hs xs) (h : ∀ a b, P a b → P' a b) : Rel P' hs xs := ⟨hr.1, fun j hj => h _ _ (hr.2 j hj)⟩
def CP (w : World) (h : Hd) (x : List Nd) : Prop := h.2.1 = x.length ∧ x.length ≤ h.2.2 ∧ Kd.C Q.k83 w h.1 x.length x
theorem C_of_heads {w W : World} {v : Value} {hs : List Hd} {xs : List (List Nd)} {base : Nat} {ok : Nat → Prop} (hR : kH.R 69 W base ok v hs) (hrel : Rel (CP w) hs xs) (hb : Below w.heap.size w W) : ∃ A c, v = .slice A xs.length c ∧ xs.length ≤ c ∧ Kd.C kA1 W A xs.length xs := by
  obtain ⟨A, c, rfl, hl, hC⟩ := Kd.R_reads hR
  rw [hrel.1] at hl hC ⊢
  refine ⟨A, c, rfl, hl, rfl, hC.2.1, fun h0 => ?_⟩
  obtain ⟨ad, e, hc⟩ := hC.2.2 h0
  refine ⟨ad, e, fun j p hj => ?_⟩
  have hlt := (List.getElem?_eq_some_iff.1 hj).1
  have hp : xs.getD j [] = p := by rw [List.getD_eq_getElem?_getD, hj]; rfl
  have hlt2 : j < hs.length := by rw [hrel.1]; exact hlt
  have hh : hs[j]? = some (hs.getD j zH) := by rw [List.getD_eq_getElem?_getD, List.getElem?_eq_getElem hlt2]; rfl
  obtain ⟨cs, h1, h2, h3⟩ := hc j _ hh
  obtain ⟨q1, q2, q3⟩ := hrel.2 j hlt
  rw [hp] at q1 q2 q3
  refine ⟨cs, h1, ?_, h3⟩
  have h2' : cs = [encH (hs.getD j zH)] := h2
  refine ⟨(hs.getD j zH).1, (hs.getD j zH).2.2, ?_, q2, Kd.C_below q3 hb⟩
  rw [h2', ← q1]; rfl
def smallTo (xs : List (List Nd)) (i : Nat) : List (List Nd) := ((List.range i).filter (keepB xs)).map fun i => xs.getD i []
theorem smallTo_succ (xs : List (List Nd)) (i : Nat) : smallTo xs (i + 1) = smallTo xs i ++ (if keepB xs i = true then [xs.getD i []] else []) := by
  unfold smallTo
  rw [List.range_succ, List.filter_append, List.map_append]
  congr 1
  rw [List.filter_cons]
  split <;> rfl
def keepTo (xs : List (List Nd)) (i j : Nat) : Bool := (List.range j).all fun k => decide (i = k) || !withinN (xs.getD k []) (xs.getD i [])
theorem keepTo_succ (xs : List (List Nd)) (i j : Nat) : keepTo xs i (j + 1) = (keepTo xs i j && (decide (i = j) || !withinN (xs.getD j []) (xs.getD i []))) := by
  unfold keepTo
  rw [List.range_succ, List.all_append]; simp
set_option maxHeartbeats 8000000 in
set_option maxRecDepth 100000 in
theorem smallest_calls (P : Hd → List Nd → Prop) (xs : List (List Nd)) (A : Option Addr) (c : Nat) (w : World) (hC : Kd.C kA1 w A xs.length xs) (hl : xs.length ≤ 20000000) (hx : ∀ x ∈ xs, x.length ≤ 1000)
    (hP : ∀ i, i < xs.length → ∀ (ad : Addr) (A1 : Option Addr) (n1 c1 : Nat), A = some ad → w.cell? (ad.add i) = some (.slice A1 n1 c1) → P (A1, n1, c1) (xs.getD i [])) :
    Calls Tryz.prog 48 #[.slice A xs.length c] w fun E w' => ∃ v hs, E = .returned v ∧ kH.R 69 w' w.heap.size (fun k => w.heap.size ≤ k) v hs ∧ Rel P hs (smallest xs) ∧ Below w.heap.size w w' := by
  have HC := Aside0.mk hC
  have HL := Aside0.mk hl
  have HX := Aside0.mk hx
  have HP := Aside0.mk hP
  clear hC hl hx hP
  go_enter Tryz.func48, Tryz.ntmps48
  go_wp2
  go_loopg [11, 3] xs.length (fun gg v11 v3 wi => ∃ (i : Nat) (hs : List Hd) (vk : Value), i ≤ xs.length ∧ xs.length - i ≤ gg ∧ v11 = .int .i64 i ∧ v3 = vk ∧ Aside0 (kH.R 69 wi w.heap.size (fun k => w.heap.size ≤ k) vk hs) ∧ Aside0 (Rel P hs (smallTo xs i)) ∧ Aside0 (Below w.heap.size w wi) ∧ Aside0 (hs.length ≤ i))
  case atStart => exact ⟨0, [], _, Nat.zero_le _, Nat.le_refl _, rfl, rfl, ⟨Kd.R_nil _ _ _ _ _⟩, ⟨Rel.nil P⟩, ⟨Below.refl _ _⟩, ⟨Nat.le_refl _⟩⟩
  case round =>
    obtain ⟨i, hs, vk, hi, hgg, rfl, rfl, HR, HREL, HB, HHL⟩ := hrel
    obtain ⟨A9, c9, e9⟩ := Kd.R_slice HR.out
    subst e9
    by_cases hlt : i < xs.length
    · have hltz : (i : Int) < (xs.length : Int) := by omega
      have HLT := Aside0.mk hlt
      have HKI := Aside0.mk (show wrap64 ((i : Int) + 1) = ((i + 1 : Nat) : Int) by rw [wr_id (by omega) (by have := HL.out; omega)]; rfl)
      obtain ⟨ad, A1, c1, e, hk, hl1, hC1⟩ := at_sl HC.out i hlt
      subst e
      have HPI := Aside0.mk ((HP.out) i hlt ad A1 _ c1 rfl hk)
      replace hk := pw_cell_below HB.out hk
      have HC1 := Aside0.mk hC1
      have HL1 := Aside0.mk hl1
      have HX1 := Aside0.mk ((HX.out) _ (getD_memX [] hlt))
      have HSS := Aside0.mk (smallTo_succ xs i)
      have HKB := Aside0.mk (show keepB xs i = keepTo xs i xs.length from rfl)
      have HKS := Aside0.mk (keepTo_succ xs i)
      have HK0 := Aside0.mk (show keepTo xs i 0 = true from rfl)
      generalize hxe : xs.getD i [] = x at *
      clear hxe hC1 hl1 hi hlt
      go_wp2
      clear hk
      go_loopg [18, 6] xs.length (fun gg v18 v6 wi => ∃ (j : Nat), j ≤ xs.length ∧ xs.length - j ≤ gg ∧ v18 = .int .i64 j ∧ v6 = .bool (keepTo xs i j) ∧ Aside0 (kH.R 69 wi w.heap.size (fun k => w.heap.size ≤ k) (.slice A9 hs.length c9) hs) ∧ Aside0 (Below w.heap.size w wi))
      case atStart => exact ⟨0, Nat.zero_le _, Nat.le_refl _, rfl, by rw [HK0.out], HR, HB⟩
      case round =>
        clear HR HB
        obtain ⟨j, hj, hgg2, rfl, rfl, HR, HB⟩ := hrel
        by_cases hltj : j < xs.length
        · have hltjz : (j : Int) < (xs.length : Int) := by omega
          have HLJ := Aside0.mk hltj
          have HKJ := Aside0.mk (show wrap64 ((j : Int) + 1) = ((j + 1 : Nat) : Int) by rw [wr_id (by omega) (by have := HL.out; omega)]; rfl)
          obtain ⟨ad2, A2, c2, e, hk, hl2, hC2⟩ := at_sl HC.out j hltj
          injection e with e
          subst e
          replace hk := pw_cell_below HB.out hk
          have HW := Aside0.mk (withinR_calls (xs.getD j []) x A2 c2 A1 c1 wr (Kd.C_below hC2 HB.out) hl2 (Kd.C_below HC1.out HB.out) HL1.out ((HX.out) _ (getD_memX [] hltj)) HX1.out)
          have HS := Aside0.mk ((HKS.out) j)
          generalize xs.getD j [] = y at *
          generalize keepTo xs i j = kp at *
          clear hC2 hl2 hj hltj
          cases kp with
          | false =>
            go_wp2
            go_roundg (xs.length - (j + 1))
            case measure => have := HLJ.out; omega
            case rel => exact ⟨j + 1, HLJ.out, Nat.le_refl _, by rw [HKJ.out], by rw [HS.out]; rfl, HR, HB⟩
          | true =>
            by_cases hij : i = j
            · subst hij
              go_wp2
              go_roundg (xs.length - (i + 1))
              case measure => have := HLJ.out; omega
              case rel => exact ⟨i + 1, HLJ.out, Nat.le_refl _, by rw [HKJ.out], by rw [HS.out]; simp, HR, HB⟩
            · have e1 : ((i : Int) == (j : Int)) = false := beq_eq_false_iff_ne.2 (by omega)
              have e2 : (i == j) = false := beq_eq_false_iff_ne.2 hij
              have HD := Aside0.mk (show decide (i = j) = false from decide_eq_false hij)
              clear hij
              go_wp2_with fail
              refine (HW.out).mono ?_
              rintro E w4 ⟨rfl, hb⟩
              have HR4 := Aside0.mk (Kd.R_below HR.out hb)
              have HB4 := Aside0.mk (below_then HB.out (HB.out).size hb)
              clear hb HR HB HW e1 e2 hk
              go_wp2
              go_roundg (xs.length - (j + 1))
              case measure => have := HLJ.out; omega
              case rel => exact ⟨j + 1, HLJ.out, Nat.le_refl _, by rw [HKJ.out], by rw [HS.out, HD.out]; rfl, HR4, HB4⟩
        · obtain rfl : j = xs.length := by omega
          rw [← HKB.out]
          clear hj hgg2 hltj
          cases hkeep : keepB xs i with
          | false =>
            rw [hkeep] at HSS
            clear hkeep
            go_wp2
            go_roundg (xs.length - (i + 1))
            case measure => have := HLT.out; omega
            case rel => exact ⟨i + 1, hs, _, HLT.out, Nat.le_refl _, by rw [HKI.out], rfl, HR, ⟨by rw [HSS.out]; simpa using HREL.out⟩, HB, ⟨Nat.le_succ_of_le HHL.out⟩⟩
          | true =>
            rw [hkeep] at HSS
            clear hkeep
            go_wp2_with ((with_reducible refine gate_builtin (b := .append) (xs := #[.tmp 37, .tmp 39]) rfl ?_); at_builtin; refine Kd.R_append kH (w0 := w) w.heap.size rfl (.tmp 37) (.tmp 39) 66 69 (.slice none 0 0) 24 rfl Tryz.underlying66 Q.info69 rfl (show 0 < 1 by decide) (by decide) (.slice A9 hs.length c9) hs (A1, x.length, c1) [.slice A1 x.length c1] (fun k => w.heap.size ≤ k) (fun _ => False) rfl rfl rfl (fun _ hk => hk.elim) (fun k hk => Nat.le_trans (HB.out).size hk) HR.out HB.out (HB.out).size (by have := HHL.out; have := HL.out; have := HLT.out; omega) ?_; intro v5 w5 ho5 hb5 hg5 hat5; have HR5 := Aside0.mk ho5; have HB5 := Aside0.mk hb5; clear ho5 hb5 hg5 hat5)
            go_roundg (xs.length - (i + 1))
            case measure => have := HLT.out; omega
            case rel => exact ⟨i + 1, hs ++ [(A1, x.length, c1)], _, HLT.out, Nat.le_refl _, by rw [HKI.out], rfl, HR5, ⟨by rw [HSS.out]; simp only [if_true]; exact (HREL.out).snoc HPI.out⟩, HB5, ⟨by rw [List.length_append, List.length_singleton]; have := HHL.out; omega⟩⟩
    · obtain rfl : i = xs.length := by omega
      have HF := Aside0.mk (show smallest xs = smallTo xs xs.length from rfl)
      clear hi hgg hlt
      go_wp2
      go_ret
      exact ⟨_, hs, rfl, HR.out, by rw [HF.out]; exact HREL.out, HB.out⟩
end Go.Proofs.YtbmcigakiibncaaGreatDoor.H
namespace Go.Proofs.YtbmcigakiibncaaGreatDoor.H
open Go.RowKit Go.Proofs.YtbmcigakiibncaaGreatDoorW.PrintWords Go.Proofs.YtbmcigakiibncaaGreatDoorW.PrintLast Go.Proofs.YtbmcigakiibncaaGreatDoorW.PrintMore
set_option linter.unusedVariables false
set_option linter.unusedSimpArgs false
theorem Rel.take {P : Hd → List Nd → Prop} {hs : List Hd} {xs : List (List Nd)} (h : Rel P hs xs) (k : Nat) : Rel P (hs.take k) (xs.take k) := by
  refine ⟨by rw [List.length_take, List.length_take, h.1], fun j hj => ?_⟩
  rw [List.length_take] at hj
  rw [List.getD_eq_getElem?_getD, List.getD_eq_getElem?_getD, List.getElem?_take_of_lt (by omega), List.getElem?_take_of_lt (by omega), ← List.getD_eq_getElem?_getD, ← List.getD_eq_getElem?_getD]
  exact h.2 j (by omega)
theorem Rel.drop {P : Hd → List Nd → Prop} {hs : List Hd} {xs : List (List Nd)} (h : Rel P hs xs) (k : Nat) : Rel P (hs.drop k) (xs.drop k) := by
  refine ⟨by rw [List.length_drop, List.length_drop, h.1], fun j hj => ?_⟩
  rw [List.length_drop] at hj
  rw [List.getD_eq_getElem?_getD, List.getD_eq_getElem?_getD, List.getElem?_drop, List.getElem?_drop, ← List.getD_eq_getElem?_getD, ← List.getD_eq_getElem?_getD]
  exact h.2 (k + j) (by omega)
theorem Rel.append {P : Hd → List Nd → Prop} {hs hs' : List Hd} {xs xs' : List (List Nd)} (h : Rel P hs xs) (h' : Rel P hs' xs') : Rel P (hs ++ hs') (xs ++ xs') := by
  refine ⟨by rw [List.length_append, List.length_append, h.1, h'.1], fun j hj => ?_⟩
  rw [List.length_append] at hj
  rw [List.getD_eq_getElem?_getD, List.getD_eq_getElem?_getD]
  by_cases hlt : j < xs.length
  · rw [List.getElem?_append_left (by rw [h.1]; exact hlt), List.getElem?_append_left hlt, ← List.getD_eq_getElem?_getD, ← List.getD_eq_getElem?_getD]
    exact h.2 j hlt
  · rw [List.getElem?_append_right (by rw [h.1]; omega), List.getElem?_append_right (by omega), h.1, ← List.getD_eq_getElem?_getD, ← List.getD_eq_getElem?_getD]
    exact h'.2 (j - xs.length) (by omega)
theorem Rel.one {P : Hd → List Nd → Prop} {h : Hd} {x : List Nd} (hp : P h x) : Rel P [h] [x] := by
  have := (Rel.nil P).snoc hp
  simpa using this
end Go.Proofs.YtbmcigakiibncaaGreatDoor.H
namespace Go.Proofs.YtbmcigakiibncaaGreatDoor.H
open Go.RowKit Go.Proofs.YtbmcigakiibncaaGreatDoorW.PrintWords Go.Proofs.YtbmcigakiibncaaGreatDoorW.PrintLast Go.Proofs.YtbmcigakiibncaaGreatDoorW.PrintMore
set_option linter.unusedVariables false
set_option linter.unusedSimpArgs false
theorem nodup_len : ∀ (n : Nat) (l : List Nat), l.Nodup → (∀ x ∈ l, x < n) → l.length ≤ n
  | 0, l, _, h => by
    cases l with
    | nil => exact Nat.le_refl _
    | cons a r => exact absurd (h a (List.mem_cons_self ..)) (Nat.not_lt_zero _)
  | n + 1, l, hn, h => by
    have h1 := nodup_len n (l.erase n) (hn.sublist (List.erase_sublist ..)) (fun x hx => by
      obtain ⟨h2, h3⟩ := (hn.mem_erase_iff).1 hx
      have := h x h3
      omega)
    rw [List.length_erase] at h1
    split at h1 <;> omega
structure GoodL (l : List (List Nd)) : Prop where
  up : l.Pairwise fun x y => cmpL x y < 0
  asc : ∀ x ∈ l, Asc x
theorem map_nodup {α : Type} (f : α → Nat) : ∀ (l : List α), l.Nodup → (∀ x ∈ l, ∀ y ∈ l, f x = f y → x = y) → (l.map f).Nodup
  | [], _, _ => List.nodup_nil
  | a :: r, hn, h => by
    obtain ⟨h1, h2⟩ := List.nodup_cons.1 hn
    rw [List.map_cons, List.nodup_cons]
    refine ⟨fun hm => ?_, map_nodup f r h2 fun x hx y hy => h x (List.mem_cons_of_mem _ hx) y (List.mem_cons_of_mem _ hy)⟩
    obtain ⟨y, hy, he⟩ := List.mem_map.1 hm
    have := h y (List.mem_cons_of_mem _ hy) a (List.mem_cons_self ..) he
    subst this
    exact h1 hy
theorem GoodL.len {l : List (List Nd)} (h : GoodL l) : l.length ≤ 16777216 := by
  have := nodup_len 16777216 (l.map maskN) (map_nodup maskN l (up_nodup h.up) fun x hx y hy e => by rw [← unN_maskN (h.asc x hx), ← unN_maskN (h.asc y hy), e]) (fun x hx => by
    obtain ⟨y, hy, rfl⟩ := List.mem_map.1 hx
    exact maskN_lt (h.asc y hy).2)
  rw [List.length_map] at this
  exact this
theorem asc_len {x : List Nd} (h : Asc x) : x.length ≤ 24 := by
  rw [← unN_maskN h]; exact (unN_small _).1
theorem GoodL.smallest {l : List (List Nd)} (h : GoodL l) : GoodL (smallest l) := ⟨h.up.sublist (smallest_sub l), fun z hz => h.asc z ((smallest_sub l).subset hz)⟩
theorem GoodL.start : GoodL [[]] := ⟨List.pairwise_singleton .., fun z hz => by rw [List.mem_singleton.1 hz]; exact ⟨List.Pairwise.nil, fun x hx => absurd hx (List.not_mem_nil)⟩⟩
theorem GoodL.none : GoodL [] := ⟨List.Pairwise.nil, fun z hz => absurd hz (List.not_mem_nil)⟩
end Go.Proofs.YtbmcigakiibncaaGreatDoor.H
namespace Go.Proofs.YtbmcigakiibncaaGreatDoor.H
open Go.RowKit Go.Proofs.YtbmcigakiibncaaGreatDoorW.PrintWords Go.Proofs.YtbmcigakiibncaaGreatDoorW.PrintLast Go.Proofs.YtbmcigakiibncaaGreatDoorW.PrintMore
set_option linter.unusedVariables false
set_option linter.unusedSimpArgs false
theorem C_heads_in {w : World} {A : Option Addr} {xs : List (List Nd)} (hC : Kd.C kA1 w A xs.length xs) : ∀ i, i < xs.length → ∀ (ad : Addr) (A1 : Option Addr) (n1 c1 : Nat), A = some ad → w.cell? (ad.add i) = some (.slice A1 n1 c1) → CP w (A1, n1, c1) (xs.getD i []) := by
  intro i hi ad A1 n1 c1 e hk
  obtain ⟨ad2, A2, c2, e2, hk2, h1, h2⟩ := at_sl hC i hi
  rw [e] at e2
  injection e2 with e2
  subst e2
  rw [hk] at hk2
  injection hk2 with hk2
  injection hk2 with q1 q2 q3
  subst q1 q2 q3
  exact ⟨rfl, h1, h2⟩
end Go.Proofs.YtbmcigakiibncaaGreatDoor.H
namespace Go.Proofs.YtbmcigakiibncaaGreatDoor.H
open Go.RowKit Go.Proofs.YtbmcigakiibncaaGreatDoorW.PrintWords Go.Proofs.YtbmcigakiibncaaGreatDoorW.PrintLast Go.Proofs.YtbmcigakiibncaaGreatDoorW.PrintMore
set_option linter.unusedVariables false
set_option linter.unusedSimpArgs false
theorem adj_pair {α : Type} (d : α) (R : α → α → Prop) (ht : ∀ a b c, R a b → R b c → R a c) : ∀ (l : List α), (∀ i, i + 1 < l.length → R (l.getD i d) (l.getD (i + 1) d)) → l.Pairwise R
  | [], _ => List.Pairwise.nil
  | [a], _ => List.pairwise_singleton ..
  | a :: b :: r, h => by
    have ih := adj_pair d R ht (b :: r) (fun i hi => by
      have := h (i + 1) (by simpa using hi)
      simpa using this)
    refine List.pairwise_cons.2 ⟨fun x hx => ?_, ih⟩
    have hab : R a b := by simpa using h 0 (by simp)
    rcases List.mem_cons.1 hx with rfl | hx
    · exact hab
    · exact ht a b x hab ((List.pairwise_cons.1 ih).1 x hx)
theorem upN_pair {l : List Nd} (h : upN l = true) : l.Pairwise fun x y => befI x y < 0 := by
  refine adj_pair zN (fun x y => befI x y < 0) (fun a b c h k => befI_trans h k) l fun i hi => ?_
  unfold upN at h
  exact of_decide_eq_true (List.all_eq_true.1 h i (List.mem_range.2 (by omega)))
theorem upL_pair {l : List (List Nd)} (h : upL l = true) : l.Pairwise fun x y => cmpL x y < 0 := by
  refine adj_pair [] (fun x y => cmpL x y < 0) (fun a b c h k => cmpL_trans h k) l fun i hi => ?_
  unfold upL at h
  exact of_decide_eq_true (List.all_eq_true.1 h i (List.mem_range.2 (by omega)))
theorem good_alts {r n : Int} {al : List (List Nd)} (h : altsOk r n al = true) (hn : ∀ l ∈ al, ∀ x ∈ l, InN x) : GoodL al := by
  unfold altsOk at h
  simp only [Bool.and_eq_true, decide_eq_true_eq, List.all_eq_true] at h
  refine ⟨upL_pair h.2, fun l hl => ⟨?_, hn l hl⟩⟩
  have h9 := h.1.2 l hl
  unfold listOk at h9
  simp only [Bool.and_eq_true] at h9
  exact upN_pair h9.2
theorem au_good {rk : List Int} {st : Int} {M : Mv} (h : auB rk st M = true) : ∀ row ∈ M, ∀ a ∈ row, GoodL a := by
  intro row hr a ha
  have hok := auOk h
  unfold auB at h
  simp only [Bool.and_eq_true] at h
  have h7 := List.all_eq_true.1 h.2 row hr
  unfold mrowOk at h7
  simp only [Bool.and_eq_true, decide_eq_true_eq, List.all_eq_true, List.mem_range] at h7
  obtain ⟨f, hf, e⟩ := mem_getD (d := []) ha
  have h8 := h7.2 f (by omega)
  rw [e] at h8
  exact good_alts h8 fun l hl x hx => hok.nds row hr a ha l hl x hx
end Go.Proofs.YtbmcigakiibncaaGreatDoor.H
namespace Go.Proofs.YtbmcigakiibncaaGreatDoor.H
open Go.RowKit Go.Proofs.YtbmcigakiibncaaGreatDoorW.PrintWords Go.Proofs.YtbmcigakiibncaaGreatDoorW.PrintLast Go.Proofs.YtbmcigakiibncaaGreatDoorW.PrintMore
set_option linter.unusedVariables false
set_option linter.unusedSimpArgs false
structure Rows (b lo : Nat) (W : World) (v : Value) (hs : List Hd) (xs : Mv) : Prop where
  len : hs.length = xs.length
  row : kH.R 65 W b (fun k => lo ≤ k) v hs
  rows : ∀ q, q < xs.length → kA2.R 66 W b (fun k => lo ≤ k) (encH (hs.getD q zH)) (xs.getD q [])
  sep : ∀ q q', q < xs.length → q' < xs.length → q ≠ q' → ∀ k, (encH (hs.getD q zH)).ownBlock = some k → (encH (hs.getD q' zH)).ownBlock ≠ some k
theorem Rows.start (b lo : Nat) (W : World) : Rows b lo W (.slice none 0 0) [] [] := ⟨rfl, Kd.R_nil _ _ _ _ _, fun q h => absurd h (Nat.not_lt_zero _), fun q q' h => absurd h (Nat.not_lt_zero _)⟩
theorem Rows.move {b lo : Nat} {W W1 : World} {v : Value} {hs : List Hd} {xs : Mv} (h : Rows b lo W v hs xs) (hm : ∀ k, lo ≤ k → k < W.heap.size → W1.heap[k]? = W.heap[k]?) : Rows b lo W1 v hs xs :=
  ⟨h.len, R_same h.row hm, fun q hq => R_same (h.rows q hq) hm, h.sep⟩
theorem Rows.below {b lo : Nat} {W W1 : World} {v : Value} {hs : List Hd} {xs : Mv} (h : Rows b lo W v hs xs) (hb : Below W.heap.size W W1) : Rows b lo W1 v hs xs := h.move fun k _ hk => hb.block k hk
theorem Rows.push {b lo : Nat} {W0 W W1 : World} {v v1 : Value} {hs : List Hd} {xs : Mv} {row : List (List (List Nd))} {h0 : Hd} (h : Rows b lo W0 v hs xs) (hb : Below W0.heap.size W0 W) (hlo : lo ≤ W0.heap.size)
    (hr : kA2.R 66 W b (fun k => W0.heap.size ≤ k) (encH h0) row) (hv : kH.R 65 W1 b (fun k => lo ≤ k) v1 (hs ++ [h0])) (hg : W.grownBy W1 v.ownBlock) : Rows b lo W1 v1 (hs ++ [h0]) (xs ++ [row]) := by
  have hW := h.below hb
  have hty : ∀ (hd : Hd) (x : List (List (List Nd))) (ok : Nat → Prop), kA2.R 66 W b ok (encH hd) x → kA2.R 66 W1 b ok (encH hd) x := fun hd x ok hR => by
    refine R_grown9 hR hW.row ?_ ?_ hg
    · decide
    · intro q hq
      simp [kA2, kA1, Kd.slice, Q.k83, Kd.iso, Kd.pair, Kd.int, Kd.scalar] at hq
      omega
  refine ⟨by rw [List.length_append, List.length_append, h.len]; rfl, hv, fun q hq => ?_, fun q q' hq hq' hne k hk => ?_⟩
  · rw [List.length_append, List.length_singleton] at hq
    rw [getD_snoc, getD_snoc, h.len]
    split
    · exact Kd.R_mono (hty _ _ _ hr) (fun k hk => Nat.le_trans hlo hk)
    · exact hty _ _ _ (hW.rows q (by omega))
  · rw [List.length_append, List.length_singleton] at hq hq'
    rw [getD_snoc, h.len] at hk ⊢
    split at hk
    · rw [if_neg (by omega)]
      intro hk'
      have h1 : W0.heap.size ≤ k := hr.1 k hk
      have h2 := (ownBlock_typed (h.rows q' (by omega)) hk').2
      omega
    · split
      · intro hk'
        have h1 : W0.heap.size ≤ k := hr.1 k hk'
        have h2 := (ownBlock_typed (h.rows q (by omega)) hk).2
        omega
      · exact h.sep q q' (by omega) (by omega) hne k hk
structure CW (w : World) (a0 a1 a2 v1 v2 : Value) (st : Int) (rk : List Int) (hs : List Hd) (xs : Mv) (W : World) : Prop where
  dw : DW w W a0 a1 a2 (.slice none 0 0) (.int .i64 0) (.slice none 0 0)
  bx : W.heap[w.heap.size + 1 + 1]? = some (.cells #[v1, .int .i64 st, v2] 25 (0, 0))
  rr : Kd.R (Kd.int .i64) 3 W w.heap.size (fun k => w.heap.size + 3 ≤ k) v1 rk
  rows : Rows w.heap.size (w.heap.size + 3) W v2 hs xs
theorem CW.below {w : World} {a0 a1 a2 v1 v2 : Value} {st : Int} {rk : List Int} {hs : List Hd} {xs : Mv} {W W1 : World} (h : CW w a0 a1 a2 v1 v2 st rk hs xs W) (hb : Below W.heap.size W W1) : CW w a0 a1 a2 v1 v2 st rk hs xs W1 :=
  ⟨h.dw.below hb, blk_below h.bx hb, Kd.R_below h.rr hb, h.rows.below hb⟩
theorem CW.push {w : World} {a0 a1 a2 v1 v2 v3 : Value} {st : Int} {rk : List Int} {hs : List Hd} {xs : Mv} {W0 W W1 : World} {row : List (List (List Nd))} {h0 : Hd} (h : CW w a0 a1 a2 v1 v2 st rk hs xs W0) (hb : Below W0.heap.size W0 W)
    (hr : kA2.R 66 W w.heap.size (fun k => W0.heap.size ≤ k) (encH h0) row) (hv : kH.R 65 W1 w.heap.size (fun k => w.heap.size + 3 ≤ k) v3 (hs ++ [h0])) (hb1 : Below w.heap.size w W1) (hg : W.grownBy W1 v2.ownBlock) : CW w a0 a1 a2 v1 v3 st rk (hs ++ [h0]) (xs ++ [row]) (W1.setCell ⟨w.heap.size + 1 + 1, 2, none⟩ v3) := by
  have hW := h.below hb
  have hown : ∀ k, v2.ownBlock = some k → w.heap.size + 3 ≤ k := hW.rows.row.1
  have hlo := blk_lt h.bx
  refine ⟨(hW.dw.grown hb1 hg (fun k hk => by have := hown k hk; omega)).far (Nat.le_refl _) v3, blk_put (blk_grown hW.bx hg (fun e => by have := hown _ e.symm; omega)) 2 v3 rfl, ?_, ?_⟩
  · exact Kd.R_far (R_grown9 hW.rr hW.rows.row (by decide) (fun _ h => by cases h) hg) (p := ⟨w.heap.size + 1 + 1, 2, none⟩) (fun k hk he => by have h0 : w.heap.size + 3 ≤ k := hk; have h1 : k = w.heap.size + 1 + 1 := he; omega) v3
  · exact (h.rows.push hb (by omega) hr hv hg).move fun k hk _ => Below.heap_setCell _ _ _ k (by show k ≠ w.heap.size + 1 + 1; omega)
set_option maxHeartbeats 8000000 in
set_option maxRecDepth 100000 in
theorem copy2_calls {rk : List Int} {st : Int} {M : Mv} (ha : AuOk rk st M) (A1 : Option Addr) (c1 : Nat) (A2 : Option Addr) (c2 : Nat) (w : World) (hr : Kd.C (Kd.int .i64) w A1 rk.length rk) (hc1 : rk.length ≤ c1) (hM : Kd.C kA3 w A2 M.length M) (hc2 : M.length ≤ c2) :
    Calls Tryz.prog 36 #[.agg #[.slice A1 rk.length c1, .int .i64 st, .slice A2 M.length c2]] w fun E w' => ∃ v1 v2 hs, E = .returned (.agg #[v1, .int .i64 st, v2]) ∧ Kd.R (Kd.int .i64) 3 w' w.heap.size (fun k => w.heap.size ≤ k) v1 rk ∧ Rows w.heap.size w.heap.size w' v2 hs M ∧ Below w.heap.size w w' := by
  have HOK := Aside0.mk ha
  have HR := Aside0.mk hr
  have HM := Aside0.mk hM
  have hu25 := Tryz.underlying25
  clear ha hr hM
  go_enter Tryz.func36, Tryz.ntmps36
  go_upto_region 2 with (fail)
  have HD0 := Aside0.mk (DW.start w (.slice A1 rk.length c1) (.int .i64 st) (.slice A2 M.length c2))
  have HBX0 := Aside0.mk (blk_new ((w.alloc (.cells #[.slice A1 rk.length c1, .int .i64 st, .slice A2 M.length c2] 25)).alloc (.cells #[.slice none 0 0, .int .i64 0, .slice none 0 0] 25)) (.cells #[.slice none 0 0, .int .i64 st, .slice none 0 0] 25))
  have HD3 := Aside0.mk ((HD0.out).below (below_alloc (Below.refl _ _) (.cells #[.slice none 0 0, .int .i64 st, .slice none 0 0] 25)))
  clear HD0
  rw [show ((w.alloc (.cells #[.slice A1 rk.length c1, .int .i64 st, .slice A2 M.length c2] 25)).alloc (.cells #[.slice none 0 0, .int .i64 0, .slice none 0 0] 25)).heap.size = w.heap.size + 1 + 1 by simp only [World.alloc, Array.size_push]] at HBX0
  generalize (((w.alloc (.cells #[.slice A1 rk.length c1, .int .i64 st, .slice A2 M.length c2] 25)).alloc (.cells #[.slice none 0 0, .int .i64 0, .slice none 0 0] 25)).alloc (.cells #[.slice none 0 0, .int .i64 st, .slice none 0 0] 25)) = W3 at *
  obtain ⟨k0, k1, k2⟩ := (HD3.out).cells
  have x0 := (blk_cell HBX0.out 0).trans (show _ = some (Value.slice none 0 0) from rfl)
  have HRN := Aside0.mk ((HOK.out).nrk)
  have HMN := Aside0.mk ((HOK.out).nM)
  have HSZ := Aside0.mk (blk_lt HBX0.out)
  have fx0 := blk_frozen HBX0.out 0
  go_wp2_with ((with_reducible refine gate_builtin (b := .append) (xs := #[.tmp 16, .tmp 18]) rfl ?_); at_builtin; refine Kd.R_append_rows (Kd.int .i64) (Rr := fun x cs => cs = [.int .i64 x]) (w0 := w) w.heap.size rfl (.tmp 16) (.tmp 18) 22 3 (.int .i64 0) 8 rfl Tryz.underlying22 Q.info3 rfl (show 0 < 1 by decide) (by decide) (.slice none 0 0) [] rk A1 rk.length c1 (fun k => w.heap.size + 3 ≤ k) (fun _ => False) rfl rfl (Kd.R_nil _ _ _ _ _) (Kd.C_below HR.out (HD3.out).hb) (fun _ _ h => h) (fun _ hk => hk.elim) (fun k hk => by have := HSZ.out; show w.heap.size + 3 ≤ k; omega) (HD3.out).hb (HD3.out).hb.size (by have := HRN.out; rw [List.length_nil]; omega) ?_; intro v5 w5 ho5 hb5 hg5 hat5; have HR5 := Aside0.mk (show Kd.R (Kd.int .i64) 3 w5 w.heap.size (fun k => w.heap.size + 3 ≤ k) v5 rk from ho5); have HD5 := Aside0.mk ((HD3.out).grown hb5 hg5 (fun k hk => by cases hk)); have HBX5 := Aside0.mk (blk_grown HBX0.out hg5 (fun e => by cases e)); clear ho5 hb5 hg5 hat5; (obtain ⟨A5, c5, e5⟩ := Kd.R_slice HR5.out); subst e5; have fx0 := blk_frozen HBX5.out 0; have x0 := (blk_cell HBX5.out 0).trans (show _ = some (Value.slice none 0 0) from rfl); obtain ⟨_, _, k2⟩ := (HD5.out).cells)
  have HCW := Aside0.mk (show CW w (.slice A1 rk.length c1) (.int .i64 st) (.slice A2 M.length c2) (.slice A5 rk.length c5) (.slice none 0 0) st rk [] [] (w5.setCell ⟨w.heap.size + 1 + 1, 0, none⟩ (.slice A5 rk.length c5)) from
    ⟨(HD5.out).far (Nat.le_refl _) _, blk_put HBX5.out 0 _ rfl, Kd.R_far HR5.out (p := ⟨w.heap.size + 1 + 1, 0, none⟩) (fun k hk he => by have h0 : w.heap.size + 3 ≤ k := hk; have h1 : k = w.heap.size + 1 + 1 := he; omega) _, Rows.start _ _ _⟩)
  go_loopg [24] M.length (fun gg v24 wi => ∃ (q : Nat) (v2 : Value) (hs : List Hd), q ≤ M.length ∧ M.length - q ≤ gg ∧ v24 = .int .i64 q ∧ Aside0 (CW w (.slice A1 rk.length c1) (.int .i64 st) (.slice A2 M.length c2) (.slice A5 rk.length c5) v2 st rk hs (M.take q) wi))
  case atStart => exact ⟨0, _, _, Nat.zero_le _, Nat.le_refl _, rfl, HCW⟩
  case round =>
    clear HCW HD3 HBX0 HSZ fx0 HR5 HD5 HBX5
    try clear x0
    try clear k2
    obtain ⟨q, v2, hs, hq, hgg, rfl, HCW⟩ := hrel
    by_cases hlt : q < M.length
    · have hltz : (q : Int) < (M.length : Int) := by omega
      have HLT := Aside0.mk hlt
      obtain ⟨ad, A6, c6, e, hk, hl6, hrow⟩ := at_sl HM.out q hlt
      subst e
      replace hk := pw_cell_below (HCW.out).dw.hb hk
      have HROW := Aside0.mk (Kd.C_below hrow (HCW.out).dw.hb)
      have HRM := Aside0.mk (getD_memY [] hlt)
      have HKQ := Aside0.mk (show wrap64 ((q : Int) + 1) = ((q + 1 : Nat) : Int) by rw [wr_id (by omega) (by have := HMN.out; omega)]; rfl)
      have HTK := Aside0.mk (show M.take (q + 1) = M.take q ++ [M.getD q []] by rw [List.take_add_one, List.getD_eq_getElem?_getD, List.getElem?_eq_getElem hlt]; rfl)
      have HTL := Aside0.mk (show (M.take q).length = q by rw [List.length_take]; omega)
      have HLO := Aside0.mk (show w.heap.size + 3 ≤ wr.heap.size by have := blk_lt (HCW.out).bx; omega)
      clear hrow hlt hq
      generalize M.getD q [] = row at *
      have HRL := Aside0.mk (show row.length ≤ 24 by rw [(HOK.out).row row HRM.out]; exact HRN.out)
      go_wp2_with fail
      clear hk
      generalize wr = WR at *
      go_loopg [30, 6] row.length (fun gg v30 v6 wi => ∃ f : Nat, f ≤ row.length ∧ row.length - f ≤ gg ∧ v30 = .int .i64 f ∧ Aside0 (kA2.R 66 wi WR.heap.size (fun k => WR.heap.size ≤ k) v6 (row.take f)) ∧ Aside0 (Below WR.heap.size WR wi))
      case atStart => exact ⟨0, Nat.zero_le _, Nat.le_refl _, rfl, ⟨Kd.R_nil _ _ _ _ _⟩, ⟨Below.refl _ _⟩⟩
      case round =>
        obtain ⟨f, hf, hgg2, rfl, HV, HBR⟩ := hrel
        by_cases hltf : f < row.length
        · have hltfz : (f : Int) < (row.length : Int) := by omega
          have HLF := Aside0.mk hltf
          obtain ⟨ad2, A7, c7, e, hk, hl7, halt⟩ := at_sl HROW.out f hltf
          subst e
          replace hk := pw_cell_below HBR.out hk
          have HALT := Aside0.mk (Kd.C_below halt HBR.out)
          have HAM := Aside0.mk (getD_memY [] hltf)
          have HKF := Aside0.mk (show wrap64 ((f : Int) + 1) = ((f + 1 : Nat) : Int) by rw [wr_id (by omega) (by have := HRL.out; omega)]; rfl)
          have HTF := Aside0.mk (show row.take (f + 1) = row.take f ++ [row.getD f []] by rw [List.take_add_one, List.getD_eq_getElem?_getD, List.getElem?_eq_getElem hltf]; rfl)
          have HFL := Aside0.mk (show (row.take f).length = f by rw [List.length_take]; omega)
          clear halt hltf hf
          generalize row.getD f [] = alts at *
          have HAL := Aside0.mk (inN_of HOK.out HRM.out HAM.out)
          go_wp2_with fail
          clear hk
          generalize wr = WS at *
          go_loopg [36, 9] alts.length (fun gg v36 v9 wi => ∃ i : Nat, i ≤ alts.length ∧ alts.length - i ≤ gg ∧ v36 = .int .i64 i ∧ Aside0 (kA1.R 69 wi WS.heap.size (fun k => WS.heap.size ≤ k) v9 (alts.take i)) ∧ Aside0 (Below WS.heap.size WS wi))
          case atStart => exact ⟨0, Nat.zero_le _, Nat.le_refl _, rfl, ⟨Kd.R_nil _ _ _ _ _⟩, ⟨Below.refl _ _⟩⟩
          case round =>
            obtain ⟨i, hi, hgg3, rfl, HX, HBS⟩ := hrel
            by_cases hlti : i < alts.length
            · have hltiz : (i : Int) < (alts.length : Int) := by omega
              have HLI := Aside0.mk hlti
              obtain ⟨ad3, A8, c8, e, hk, hl8, hlist⟩ := at_sl HALT.out i hlti
              subst e
              replace hk := pw_cell_below HBS.out hk
              have HLC := Aside0.mk (Kd.C_below hlist HBS.out)
              have HLM := Aside0.mk (((HAL.out).2 _ (getD_memX [] hlti)).1)
              have HKI := Aside0.mk (show wrap64 ((i : Int) + 1) = ((i + 1 : Nat) : Int) by rw [wr_id (by omega) (by have := (HAL.out).1; omega)]; rfl)
              have HTI := Aside0.mk (show alts.take (i + 1) = alts.take i ++ [alts.getD i []] by rw [List.take_add_one, List.getD_eq_getElem?_getD, List.getElem?_eq_getElem hlti]; rfl)
              have HIL := Aside0.mk (show (alts.take i).length = i by rw [List.length_take]; omega)
              have HLC0 := Aside0.mk hlist
              have HXO := Aside0.mk (show ∀ k, u9.ownBlock = some k → k < wr.heap.size from fun k hk => (ownBlock_typed HX.out hk).2)
              clear hlist hlti hi
              generalize alts.getD i [] = l at *
              go_upto_region 14 with (fail)
              have HX0 := Aside0.mk (show kA1.R 69 wr WS.heap.size (fun k => WS.heap.size ≤ k ∧ k < wr.heap.size) u9 (alts.take i) from Kd.R_mono (Kd.R_bound HX.out) (fun k hk => ⟨hk.1, hk.2.2.1⟩))
              have HWS := Aside0.mk (HBS.out).size
              clear hk HX
              go_wp2_with (first | ((with_reducible refine gate_dst (N := 41) rfl ?_); refine Kd.R_lit Q.k83 (w0 := WS) WS.heap.size 83 ?hg (N := 41) ?hd (xs := ([] : List Nd)) (inner := []) (ok := fun k => wr.heap.size ≤ k) (okp := fun _ => False) ?hr ?hp (fun _ hk => hk.elim) (Nat.le_refl _) HBS.out HWS.out (by simp) ?_; (case hd => rfl); (case hg => rfl); (case hr => first | (go_simp; done) | (go_simp; rfl)); (case hp => exact (Reps.none _ _)); intro v41 w41 ho hb hg hnew; have HO41 := Aside0.mk ho; have HB41 := Aside0.mk hb; have HS41 := Aside0.mk hg.size; have HX41 := Aside0.mk (Kd.R_grown HX0.out hg (fun k _ => by simp)); clear ho hb hg hnew) | ((with_reducible refine gate_builtin (b := .append) (xs := #[.tmp 41, .tmp 42]) rfl ?_); at_builtin; refine Kd.R_append_rows Q.k83 (w0 := WS) WS.heap.size rfl (.tmp 41) (.tmp 42) 69 83 (.agg #[(.int .i64 0), (.int .i64 0)]) 16 rfl Tryz.underlying69 Q.info83 rfl (by decide) (by decide) v41 [] l A8 l.length c8 (fun k => wr.heap.size ≤ k) (fun _ => False) rfl rfl HO41.out (Kd.C_below HLC0.out HB41.out) (fun _ _ h => h) (fun _ h => h.elim) (fun k hk => Nat.le_trans HS41.out hk) HB41.out (Nat.le_trans HWS.out HS41.out) (by have := HLM.out; rw [List.length_nil]; omega) ?_; intro v43 w43 ho hb hg hat; have HO43 := Aside0.mk (show Kd.R Q.k83 83 w43 WS.heap.size (fun k => wr.heap.size ≤ k) v43 l from ho); have HB43 := Aside0.mk hb; have HS43 := Aside0.mk (Nat.le_trans HS41.out hg.size); have HX43 := Aside0.mk (Kd.R_grown HX41.out hg (fun k hk e => by have h1 : wr.heap.size ≤ k := (HO41.out).1 k e.symm; have := hk.2; omega)); (obtain ⟨A9, c9, e9⟩ := Kd.R_slice HO43.out); subst e9; clear ho hb hg hat) | ((with_reducible refine gate_builtin (b := .append) (xs := #[.tmp 40, .tmp 44]) rfl ?_); at_builtin; refine Kd.R_append kA1 (w0 := WS) WS.heap.size rfl (.tmp 40) (.tmp 44) 66 69 (.slice none 0 0) 24 rfl Tryz.underlying66 Q.info69 rfl (show 0 < 1 by decide) (by decide) u9 (alts.take i) l [.slice A9 l.length c9] (fun k => WS.heap.size ≤ k) (fun k => wr.heap.size ≤ k) rfl rfl ⟨_, rfl, HO43.out⟩ (fun k hk => ⟨Nat.le_trans HWS.out hk, fun e => by have h1 := HXO.out k e.symm; have h2 : wr.heap.size ≤ k := hk; omega⟩) (fun k hk => Nat.le_trans (Nat.le_trans HWS.out HS43.out) hk) (Kd.R_mono HX43.out (fun k hk => hk.1)) HB43.out (Nat.le_trans HWS.out HS43.out) (by rw [HIL.out]; have := HLI.out; have := (HAL.out).1; omega) ?_; intro v45 w45 ho hb hg hat; have HX45 := Aside0.mk ho; have HB45 := Aside0.mk hb; clear ho hb hg hat))
              go_roundg (alts.length - (i + 1))
              case measure => have := HLI.out; omega
              case rel => exact ⟨i + 1, HLI.out, Nat.le_refl _, by rw [HKI.out], ⟨by rw [HTI.out]; exact HX45.out⟩, HB45⟩
            · obtain rfl : i = alts.length := by omega
              have HXF := Aside0.mk (show kA1.R 69 wr WS.heap.size (fun k => WS.heap.size ≤ k) u9 alts by have := HX.out; rwa [List.take_length] at this)
              have HV2 := Aside0.mk (Kd.R_below HV.out HBS.out)
              have HVO := Aside0.mk (show ∀ k, u6.ownBlock = some k → k < WS.heap.size from fun k hk => (ownBlock_typed HV.out hk).2)
              have HBR2 := Aside0.mk (below_then HBR.out (HBR.out).size HBS.out)
              have HWS := Aside0.mk (HBS.out).size
              have HWR := Aside0.mk (HBR.out).size
              obtain ⟨A9, c9, e9⟩ := Kd.R_slice HXF.out
              subst e9
              clear hi hgg3 hlti HX HV HBR HBS
              go_wp2_with ((with_reducible refine gate_builtin (b := .append) (xs := #[.tmp 47, .tmp 49]) rfl ?_); at_builtin; refine Kd.R_append kA2 (w0 := WR) WR.heap.size rfl (.tmp 47) (.tmp 49) 65 66 (.slice none 0 0) 24 rfl Tryz.underlying65 Q.info66 rfl (show 0 < 1 by decide) (by decide) u6 (row.take f) alts [.slice A9 alts.length c9] (fun k => WR.heap.size ≤ k) (fun k => WS.heap.size ≤ k) rfl rfl ⟨_, rfl, Kd.R_lower HXF.out HWR.out⟩ (fun k hk => ⟨Nat.le_trans HWR.out hk, fun e => by have h1 := HVO.out k e.symm; have h2 : WS.heap.size ≤ k := hk; omega⟩) (fun k hk => Nat.le_trans (Nat.le_trans HWR.out HWS.out) hk) HV2.out HBR2.out (Nat.le_trans HWR.out HWS.out) (by rw [HFL.out]; have := HLF.out; have := HRL.out; omega) ?_; intro v50 w50 ho hb hg hat; have HV50 := Aside0.mk ho; have HB50 := Aside0.mk hb; clear ho hb hg hat)
              go_roundg (row.length - (f + 1))
              case measure => have := HLF.out; omega
              case rel => exact ⟨f + 1, HLF.out, Nat.le_refl _, by rw [HKF.out], ⟨by rw [HTF.out]; exact HV50.out⟩, HB50⟩
        · obtain rfl : f = row.length := by omega
          have HVF := Aside0.mk (show kA2.R 66 wr w.heap.size (fun k => WR.heap.size ≤ k) u6 row by have := HV.out; rw [List.take_length] at this; exact Kd.R_lower this (HCW.out).dw.hb.size)
          have HCW2 := Aside0.mk ((HCW.out).below HBR.out)
          have HWR := Aside0.mk (HBR.out).size
          obtain ⟨A9, c9, e9⟩ := Kd.R_slice HVF.out
          subst e9
          have HHL := Aside0.mk (show hs.length = q by rw [(HCW.out).rows.len, HTL.out])
          have x2 := (blk_cell (HCW2.out).bx 2).trans (show _ = some v2 from rfl)
          clear hf hgg2 hltf HV
          go_wp2_with ((with_reducible refine gate_builtin (b := .append) (xs := #[.tmp 53, .tmp 55]) rfl ?_); at_builtin; refine Kd.R_append kH (w0 := w) w.heap.size rfl (.tmp 53) (.tmp 55) 23 65 (.slice none 0 0) 24 rfl Tryz.underlying23 Q.info65 rfl (show 0 < 1 by decide) (by decide) v2 hs (A9, row.length, c9) [.slice A9 row.length c9] (fun k => w.heap.size + 3 ≤ k) (fun _ => False) rfl rfl rfl (fun _ hk => hk.elim) (fun k hk => Nat.le_trans (Nat.le_trans HLO.out HWR.out) hk) (HCW2.out).rows.row (HCW2.out).dw.hb (HCW2.out).dw.hb.size (by rw [HHL.out]; have := HLT.out; have := HMN.out; omega) ?_; intro v56 w56 ho hb hg hat; have HCP := Aside0.mk (CW.push (h0 := (A9, row.length, c9)) HCW.out HBR.out HVF.out ho hb hg); have HB56 := Aside0.mk (blk_grown (HCW2.out).bx hg (fun e => by have := (HCW2.out).rows.row.1 _ e.symm; omega)); have x2 := (blk_cell HB56.out 2).trans (show _ = some v2 from rfl); have f2 := blk_frozen HB56.out 2; (obtain ⟨A10, c10, e10⟩ := Kd.R_slice ho); rw [List.length_append, List.length_singleton] at e10; subst e10; clear ho hb hg hat)
          rw [← HTK.out] at HCP
          go_roundg (M.length - (q + 1))
          case measure => have := HLT.out; omega
          case rel => exact ⟨q + 1, _, _, HLT.out, Nat.le_refl _, by rw [HKQ.out], HCP⟩
    · obtain rfl : q = M.length := by omega
      rw [List.take_length] at HCW
      obtain ⟨⟨r0, r1, r2⟩, g0, g1, g2⟩ := (HCW.out).dw.rcells
      obtain ⟨A10, c10, e10⟩ := Kd.R_slice (HCW.out).rows.row
      rw [(HCW.out).rows.len] at e10
      subst e10
      have x0 := (blk_cell (HCW.out).bx 0).trans (show _ = some (Value.slice A5 rk.length c5) from rfl)
      have x1 := (blk_cell (HCW.out).bx 1).trans (show _ = some (Value.int .i64 st) from rfl)
      have x2 := (blk_cell (HCW.out).bx 2).trans (show _ = some (Value.slice A10 M.length c10) from rfl)
      have HD3 := Aside0.mk ((HCW.out).dw.put (.slice A5 rk.length c5) (.int .i64 st) (.slice A10 M.length c10))
      have HRR := Aside0.mk (Kd.R_mono (R_same (w1 := put3 wr (w.heap.size + 1) (.slice A5 rk.length c5) (.int .i64 st) (.slice A10 M.length c10)) (HCW.out).rr (fun k hk _ => put3_heap _ _ _ _ _ k (by omega))) (ok' := fun k => w.heap.size ≤ k) (fun k hk => by omega))
      have HRW := Aside0.mk ((HCW.out).rows.move (W1 := put3 wr (w.heap.size + 1) (.slice A5 rk.length c5) (.int .i64 st) (.slice A10 M.length c10)) (fun k hk _ => put3_heap _ _ _ _ _ k (by omega)))
      unfold put3 at HD3 HRR HRW
      clear hq hgg hlt
      go_wp2
      refine bodyPost_ret (results_cell_row rfl _ _ (w.heap.size + 1) 25 #[.slice A5 rk.length c5, .int .i64 st, .slice A10 M.length c10] (0, 0) _ rfl (HD3.out).h2 Tryz.underlying25 rfl (by kernel_rfl)) rfl ?_
      exact ⟨_, _, hs, rfl, HRR.out, ⟨(HRW.out).len, Kd.R_mono (HRW.out).row (fun k hk => by omega), fun q hq => Kd.R_mono ((HRW.out).rows q hq) (fun k hk => by omega), (HRW.out).sep⟩, (HD3.out).hb⟩
end Go.Proofs.YtbmcigakiibncaaGreatDoor.H
namespace Go.Proofs.YtbmcigakiibncaaGreatDoor.H
open Go.RowKit Go.Proofs.YtbmcigakiibncaaGreatDoorW.PrintWords Go.Proofs.YtbmcigakiibncaaGreatDoorW.PrintLast Go.Proofs.YtbmcigakiibncaaGreatDoorW.PrintMore
set_option linter.unusedVariables false
set_option linter.unusedSimpArgs false
theorem R_block {α : Type} {d : Kd α} {e base : Nat} {ok : Nat → Prop} {w : World} {v : Value} {xs : List α} (h : d.R e w base ok v xs) (hn : 0 < xs.length) (hs : 0 < d.sz) : ∃ g c, v = .slice (some ⟨g, 0, none⟩) xs.length c := by
  obtain ⟨_, inner, ho, hr⟩ := h
  rcases ho.2 with ⟨hv, hi⟩ | ⟨g, cap, cur, hv, _⟩
  · omega
  · exact ⟨g, cap, hv⟩
theorem kA2_E : ∀ q ∈ kA2.E, q ≠ 66 := by
  intro q hq
  simp [kA2, kA1, Kd.slice, Q.k83, Kd.iso, Kd.pair, Kd.int, Kd.scalar] at hq
  omega
theorem getD_setD {α : Type} (l : List α) (x d : α) {i : Nat} (j : Nat) (hi : i < l.length) : (l.set i x).getD j d = if j = i then x else l.getD j d := by
  rw [List.getD_eq_getElem?_getD, List.getD_eq_getElem?_getD, List.getElem?_set]
  by_cases h : i = j
  · subst h
    rw [if_pos rfl, if_pos hi, if_pos rfl]; rfl
  · rw [if_neg h, if_neg (fun e => h e.symm)]
theorem Rows.at {b lo : Nat} {W : World} {v : Value} {hs : List Hd} {xs : Mv} (h : Rows b lo W v hs xs) {q f : Nat} (hq : q < xs.length) (hf : f < (xs.getD q []).length) :
    ∃ gt c g n, v = .slice (some ⟨gt, 0, none⟩) xs.length c ∧ hs.getD q zH = (some ⟨g, 0, none⟩, (xs.getD q []).length, n) ∧ W.cell? ⟨gt, q, none⟩ = some (.slice (some ⟨g, 0, none⟩) (xs.getD q []).length n) ∧ g < W.heap.size ∧ lo ≤ g ∧
      kA2.R 66 W b (fun k => lo ≤ k) (.slice (some ⟨g, 0, none⟩) (xs.getD q []).length n) (xs.getD q []) := by
  obtain ⟨gt, c, hv⟩ := R_block h.row (by rw [h.len]; omega) (by decide)
  have hr := h.rows q hq
  obtain ⟨g, n, hg⟩ := R_block hr (by omega) (by decide)
  rw [hg] at hr
  have hh : hs.getD q zH = (some ⟨g, 0, none⟩, (xs.getD q []).length, n) := by
    have e' : Value.slice (hs.getD q zH).1 (hs.getD q zH).2.1 (hs.getD q zH).2.2 = .slice (some ⟨g, 0, none⟩) (xs.getD q []).length n := hg
    injection e' with e1 e2 e3
    rw [← e1, ← e2, ← e3]
  have hob := ownBlock_typed hr (k := g) rfl
  refine ⟨gt, c, g, n, by rw [hv, h.len], hh, ?_, hob.2, hr.1 g rfl, hr⟩
  have hrow := h.row
  rw [hv] at hrow
  obtain ⟨_, _, hC⟩ := Kd.R_reads' hrow
  obtain ⟨ad, cs, e, _, hK, hc0⟩ := Kd.C_get hC zH (q : Int) (by omega) (by rw [h.len]; omega)
  injection e with e
  subst e
  rw [Int.toNat_natCast] at hK
  have hK' : cs = [encH (hs.getD q zH)] := hK
  subst hK'
  have h0 := hc0 0 _ rfl
  rw [Int.toNat_natCast, show kH.sz = 1 from rfl, Nat.mul_one, Nat.add_zero, hh, show (Addr.add ⟨gt, 0, none⟩ q) = ⟨gt, q, none⟩ by simp [Addr.add]; exact fun h => h.symm] at h0
  exact h0
theorem Rows.put {b lo : Nat} {W : World} {v v9 : Value} {hs : List Hd} {xs : Mv} {x : List (List Nd)} (h : Rows b lo W v hs xs) {q f g n : Nat} (hq : q < xs.length) (hf : f < (xs.getD q []).length)
    (hh : hs.getD q zH = (some ⟨g, 0, none⟩, (xs.getD q []).length, n)) {okp : Nat → Prop} (hR : kA1.R 69 W b okp v9 x) (hok : ∀ k, okp k → lo ≤ k ∧ k ≠ g) :
    Rows b lo (W.setCell ⟨g, f, none⟩ v9) v hs (xs.set q ((xs.getD q []).set f x)) := by
  have hr := h.rows q hq
  rw [hh] at hr
  have hr' : kA2.R 66 W b (fun k => lo ≤ k) (.slice (some ⟨g, 0, none⟩) (xs.getD q []).length n) (xs.getD q []) := hr
  obtain ⟨⟨cg, hcg⟩, hgl⟩ := ownBlock_typed hr' (k := g) rfl
  obtain ⟨hW2, hgr⟩ := R_puts hr' f hf hR hok
  refine ⟨by rw [List.length_set]; exact h.len, ?_, fun q' hq' => ?_, fun q1 q2 h1 h2 hne k hk => ?_⟩
  · exact R_other h.row g (fun e => by obtain ⟨⟨c, hc⟩, _⟩ := ownBlock_typed h.row e; exact types_ne hc hcg (by decide) rfl) (fun _ h => by cases h) (fun k hk _ => Below.heap_setCell _ _ _ k hk)
  · rw [List.length_set] at hq'
    rw [getD_setD xs _ [] q' hq]
    split
    · rename_i e
      subst e
      rw [hh]
      exact hW2
    · rename_i e
      refine R_other (h.rows q' hq') g ?_ ?_ (fun k hk _ => Below.heap_setCell _ _ _ k hk)
      · exact h.sep q q' hq hq' (fun he => e he.symm) g (by rw [hh]; rfl)
      · intro t ht cells hc
        rw [hcg] at hc
        injection hc with hc
        injection hc with _ hc _
        exact kA2_E t ht hc.symm
  · rw [List.length_set] at h1 h2
    exact h.sep q1 q2 h1 h2 hne k hk
theorem Rows.done {b lo : Nat} {W : World} {v : Value} {hs : List Hd} {xs : Mv} (h : Rows b lo W v hs xs) : kA3.R 65 W b (fun k => lo ≤ k) v xs := by
  obtain ⟨h1, inner, ho, hr⟩ := h.row
  refine ⟨h1, inner, ?_, ?_⟩
  · rw [← h.len]; exact ho
  · refine ⟨by rw [hr.1, h.len]; rfl, fun j p hj => ?_⟩
    have hlt := (List.getElem?_eq_some_iff.1 hj).1
    have hp : xs.getD j [] = p := by rw [List.getD_eq_getElem?_getD, hj]; rfl
    have hlt2 : j < hs.length := by rw [h.len]; exact hlt
    have hh : hs[j]? = some (hs.getD j zH) := by rw [List.getD_eq_getElem?_getD, List.getElem?_eq_getElem hlt2]; rfl
    have h2 := hr.2 j _ hh
    have q := h.rows j hlt
    rw [hp] at q
    refine ⟨encH (hs.getD j zH), h2, ?_⟩
    cases hob : v.ownBlock with
    | none => exact Kd.R_mono q (fun k hk => ⟨hk, fun e => by cases e⟩)
    | some gt =>
      obtain ⟨⟨cg, hcg⟩, _⟩ := ownBlock_typed h.row hob
      exact Kd.R_mono (Kd.R_types q hcg (by
        intro t ht
        rcases List.mem_cons.1 ht with rfl | ht
        · decide
        · intro e
          subst e
          simp [kA2, kA1, Kd.slice, Q.k83, Kd.iso, Kd.pair, Kd.int, Kd.scalar] at ht)) (fun k hk => ⟨hk.1, fun e => hk.2 (Option.some.inj e)⟩)
end Go.Proofs.YtbmcigakiibncaaGreatDoor.H
namespace Go.Proofs.YtbmcigakiibncaaGreatDoor.H
open Go.RowKit Go.Proofs.YtbmcigakiibncaaGreatDoorW.PrintWords Go.Proofs.YtbmcigakiibncaaGreatDoorW.PrintLast Go.Proofs.YtbmcigakiibncaaGreatDoorW.PrintMore
set_option linter.unusedVariables false
set_option linter.unusedSimpArgs false
def leafT (t : Nat) : Prop := t = 83 ∨ t = 3
structure TU (b : Nat) (w W : World) : Prop where
  hb : Below b w W
  other : ∀ (k : Nat) (cs : Array Value) (t : TypeId), ¬ leafT t → w.heap[k]? = some (.cells cs t (0, 0)) → W.heap[k]? = some (.cells cs t (0, 0))
  leaf : ∀ (k : Nat) (cs : Array Value) (t : TypeId), leafT t → w.heap[k]? = some (.cells cs t (0, 0)) → ∃ cs' : Array Value, W.heap[k]? = some (.cells cs' t (0, 0)) ∧ ∀ (i : Nat) (x : Int), cs[i]? = some (Value.int .i64 x) → ∃ y, cs'[i]? = some (Value.int .i64 y)
theorem TU.start {b : Nat} {w : World} : TU b w w := ⟨Below.refl _ _, fun _ _ _ _ h => h, fun _ cs _ _ h => ⟨cs, h, fun i x hx => ⟨x, hx⟩⟩⟩
theorem TU.below {b : Nat} {w W W1 : World} (h : TU b w W) (hbw : b ≤ W.heap.size) (hb : Below W.heap.size W W1) : TU b w W1 :=
  ⟨below_then h.hb hbw hb, fun k cs t ht hk => blk_below (h.other k cs t ht hk) hb, fun k cs t ht hk => by obtain ⟨cs', h1, h2⟩ := h.leaf k cs t ht hk; exact ⟨cs', blk_below h1 hb, h2⟩⟩
theorem TU.put {b : Nat} {w W : World} (h : TU b w W) {g i : Nat} {cs : Array Value} {t : TypeId} (ht : leafT t) (hg : w.heap[g]? = some (.cells cs t (0, 0))) (hbg : b ≤ g) (z : Int) : TU b w (W.setCell ⟨g, i, none⟩ (.int .i64 z)) := by
  refine ⟨h.hb.setCell (p := ⟨g, i, none⟩) hbg _, fun k cs1 t1 ht1 hk => ?_, fun k cs1 t1 ht1 hk => ?_⟩
  · have hne : k ≠ g := by
      rintro rfl
      rw [hg] at hk
      injection hk with hk
      injection hk with _ hk _
      exact ht1 (hk ▸ ht)
    exact blk_far (h.other k cs1 t1 ht1 hk) hne _
  · obtain ⟨cs', h1, h2⟩ := h.leaf k cs1 t1 ht1 hk
    by_cases hkg : k = g
    · subst hkg
      refine ⟨_, blk_set h1 i _, fun j x hx => ?_⟩
      obtain ⟨y, hy⟩ := h2 j x hx
      rw [Array.getElem?_setIfInBounds]
      by_cases hij : i = j
      · subst hij
        rw [if_pos rfl, if_pos (by exact (Array.getElem?_eq_some_iff.1 hy).1)]
        exact ⟨z, rfl⟩
      · rw [if_neg hij]; exact ⟨y, hy⟩
    · exact ⟨cs', blk_far h1 hkg _, h2⟩
theorem R_down {α : Type} {d : Kd α} {e t b : Nat} {ok : Nat → Prop} {w : World} {v : Value} {xs : List (List α)} (h : (Kd.slice e d).R t w b ok v xs) {j : Nat} (hj : j < xs.length) :
    ∃ g c u cells, v = .slice (some ⟨g, 0, none⟩) xs.length c ∧ w.heap[g]? = some (.cells cells t (0, 0)) ∧ w.cell? ⟨g, j, none⟩ = some u ∧ d.R e w b ok u (xs.getD j []) := by
  obtain ⟨g, c, hv⟩ := R_block h (by omega) (show 0 < 1 by decide)
  subst hv
  obtain ⟨⟨cells, hc⟩, _⟩ := ownBlock_typed h (k := g) rfl
  obtain ⟨cs, hcl, hM, hcc, hf⟩ := Kd.R_elem h [] (j : Int) (by omega) (by omega)
  obtain ⟨u, rfl, hR⟩ := hM
  have hs : (Kd.slice e d).sz = 1 := rfl
  have h0 := hcc 0 u rfl
  rw [hs, Int.toNat_natCast, Nat.mul_one, Nat.add_zero] at h0
  rw [Int.toNat_natCast] at hR
  exact ⟨g, c, u, cells, rfl, hc, h0, Kd.R_mono hR (fun k hk => hk.1)⟩
theorem TU.cell {b : Nat} {w W : World} (h : TU b w W) {g j : Nat} {u : Value} {cells : Array Value} {t : TypeId} (ht : ¬ leafT t) (hg : w.heap[g]? = some (.cells cells t (0, 0))) (hc : w.cell? ⟨g, j, none⟩ = some u) : W.cell? ⟨g, j, none⟩ = some u := by
  have h1 := h.other g cells t ht hg
  rw [blk_cell hg] at hc
  rw [blk_cell h1]; exact hc
theorem TU.num {b : Nat} {w W : World} (h : TU b w W) {g j : Nat} {x : Int} {cells : Array Value} {t : TypeId} (ht : leafT t) (hg : w.heap[g]? = some (.cells cells t (0, 0))) (hc : w.cell? ⟨g, j, none⟩ = some (.int .i64 x)) : ∃ y, W.cell? ⟨g, j, none⟩ = some (.int .i64 y) ∧ W.frozen? ⟨g, j, none⟩ = false := by
  obtain ⟨cs', h1, h2⟩ := h.leaf g cells t ht hg
  rw [blk_cell hg] at hc
  obtain ⟨y, hy⟩ := h2 j x hc
  exact ⟨y, (blk_cell h1 j).trans hy, blk_frozen h1 j⟩
theorem R_need {w : World} {b : Nat} {ok : Nat → Prop} {v : Value} {l : List Nd} (h : Q.k83.R 83 w b ok v l) {j : Nat} (hj : j < l.length) :
    ∃ g c cells x, v = .slice (some ⟨g, 0, none⟩) l.length c ∧ w.heap[g]? = some (.cells cells 83 (0, 0)) ∧ ok g ∧ w.cell? ⟨g, j * 2, none⟩ = some (.int .i64 x) := by
  obtain ⟨g, c, hv⟩ := R_block h (by omega) (by decide)
  subst hv
  obtain ⟨⟨cells, hc⟩, _⟩ := ownBlock_typed h (k := g) rfl
  obtain ⟨_, _, hC⟩ := Kd.R_reads' h
  obtain ⟨ad, e, h0, _⟩ := Q.at_T83 hC (j : Int) (by omega) (by omega)
  injection e with e
  subst e
  rw [Int.toNat_natCast, show (Addr.add ⟨g, 0, none⟩ (j * 2)) = ⟨g, j * 2, none⟩ by simp [Addr.add]; exact fun h => h.symm] at h0
  exact ⟨g, c, cells, _, rfl, hc, h.1 g rfl, h0⟩
theorem R_rank {w : World} {b : Nat} {ok : Nat → Prop} {v : Value} {l : List Int} (h : (Kd.int .i64).R 3 w b ok v l) {j : Nat} (hj : j < l.length) :
    ∃ g c cells x, v = .slice (some ⟨g, 0, none⟩) l.length c ∧ w.heap[g]? = some (.cells cells 3 (0, 0)) ∧ ok g ∧ w.cell? ⟨g, j, none⟩ = some (.int .i64 x) := by
  obtain ⟨g, c, hv⟩ := R_block h (by omega) (by decide)
  subst hv
  obtain ⟨⟨cells, hc⟩, _⟩ := ownBlock_typed h (k := g) rfl
  obtain ⟨_, _, hC⟩ := Kd.R_reads' h
  obtain ⟨ad, e, h0⟩ := Kd.at_int hC (j : Int) (by omega) (by omega)
  injection e with e
  subst e
  rw [Int.toNat_natCast, show (Addr.add ⟨g, 0, none⟩ j) = ⟨g, j, none⟩ by simp [Addr.add]; exact fun h => h.symm] at h0
  exact ⟨g, c, cells, _, rfl, hc, h.1 g rfl, h0⟩
end Go.Proofs.YtbmcigakiibncaaGreatDoor.H
namespace Go.Proofs.YtbmcigakiibncaaGreatDoor.H
open Go.RowKit Go.Proofs.YtbmcigakiibncaaGreatDoorW.PrintWords Go.Proofs.YtbmcigakiibncaaGreatDoorW.PrintLast Go.Proofs.YtbmcigakiibncaaGreatDoorW.PrintMore
set_option linter.unusedVariables false
set_option linter.unusedSimpArgs false
def tabT38 : Bool × List (List Nat × List Nat) := (true, [([], []), ([0], [0]), ([], []), ([1, 2], [1, 2]), ([3], [3]), ([], []), ([4, 5], [4, 5]), ([6], [6]), ([], []), ([7, 8], [7, 8]), ([9], [9]), ([], []), ([], []), ([12], [12]), ([], []), ([13, 14], [13, 14]), ([15], [15]), ([], []), ([16, 17], [16, 17]), ([18], [18]), ([], []), ([19, 20], [19, 20]), ([21], [21]), ([], []), ([22, 23], [22, 23]), ([24], [24]), ([25], [25]), ([26], [26]), ([10, 11, 0, 1, 2, 3, 4, 5, 6, 7, 8, 9, 10, 11, 12, 13, 14, 15, 16, 17, 18, 19, 20, 21, 22, 23, 24, 25, 26, 27], [10, 11]), ([28, 0, 1, 2, 3, 4, 5, 6, 7, 8, 9, 10, 11, 12, 13, 14, 15, 16, 17, 18, 19, 20, 21, 22, 23, 24, 25, 26, 27], [28]), ([29, 27, 0, 1, 2, 3, 4, 5, 6, 7, 8, 9, 10, 11, 12, 13, 14, 15, 16, 17, 18, 19, 20, 21, 22, 23, 24, 25, 26, 27], [27, 29])])
theorem tab38 : rtab .any (opsOf Tryz.f38 13) = tabT38 := by kernel_rfl
theorem bits38 : waitsOk tabT38.2 [0, 1, 0, 7, 15, 0, 63, 127, 0, 511, 1023, 0, 0, 4096, 0, 28672, 61440, 0, 258048, 520192, 0, 2093056, 4190208, 0, 16773120, 33550336, 67104768, 134213632, 268435455, 536870911, 1073741823] = true := by kernel_rfl
set_option maxHeartbeats 16000000 in
set_option maxRecDepth 1000000 in
theorem turn_calls (b : Nat) (rk : List Int) (st : Int) (D : Mv) (v1 v2 : Value) (w : World) (hbw : b ≤ w.heap.size) (h1 : (Kd.int .i64).R 3 w b (fun k => b ≤ k) v1 rk) (h2 : kA3.R 65 w b (fun k => b ≤ k) v2 D)
    (hr : rk.length ≤ 1000) (hD : D.length ≤ 1000) (hal : ∀ row ∈ D, row.length ≤ 1000 ∧ ∀ a ∈ row, a.length ≤ 1000 ∧ ∀ l ∈ a, l.length ≤ 1000) :
    Calls Tryz.prog 38 #[.agg #[v1, .int .i64 st, v2]] w fun E w' => E = .returned (.tuple #[]) ∧ Below b w w' := by
  obtain ⟨A1, c1, rfl⟩ := Kd.R_slice h1
  obtain ⟨A2, c2, rfl⟩ := Kd.R_slice h2
  have hba := below_alloc (Below.refl w.heap.size w) (.cells #[.slice A1 rk.length c1, .int .i64 st, .slice A2 D.length c2] 25)
  have HX0 := Aside0.mk (blk_new w (.cells #[.slice A1 rk.length c1, .int .i64 st, .slice A2 D.length c2] 25))
  have HR := Aside0.mk (Kd.R_below h1 hba)
  have HM := Aside0.mk (Kd.R_below h2 hba)
  have HBW := Aside0.mk hbw
  have HB0 := Aside0.mk (show Below b w (w.alloc (.cells #[.slice A1 rk.length c1, .int .i64 st, .slice A2 D.length c2] 25)) from (Below.refl b w).alloc hbw _)
  have HRL := Aside0.mk hr
  have HDL := Aside0.mk hD
  have HAL := Aside0.mk hal
  have hu25 := Tryz.underlying25
  have hu83 := Tryz.underlying83
  clear h1 h2 hba hbw hr hD hal
  go_enter Tryz.func38, Tryz.ntmps38
  go_upto_region 1 with (fail)
  generalize w.alloc (.cells #[.slice A1 rk.length c1, .int .i64 st, .slice A2 D.length c2] 25) = W0 at *
  have HT0 := Aside0.mk (TU.start (b := b) (w := W0))
  have HS0 := Aside0.mk (HB0.out).size
  have HK0 := Aside0.mk fun W (h : TU b W0 W) => h.cell (t := 25) (by unfold leafT; omega) HX0.out ((blk_cell HX0.out 0).trans (show _ = some (Value.slice A1 rk.length c1) from rfl))
  have HK2 := Aside0.mk fun W (h : TU b W0 W) => h.cell (t := 25) (by unfold leafT; omega) HX0.out ((blk_cell HX0.out 2).trans (show _ = some (Value.slice A2 D.length c2) from rfl))
  clear HX0
  have k2 := HK2.out _ HT0.out
  go_upto_block 0 with (fail)
  clear k2
  go_cut [10] (fun v10 wx => Aside0 (TU b W0 wx))
  case first =>
    go_wp2_with fail
    go_loopg [10] D.length (fun gg v10 wi => ∃ q : Nat, q ≤ D.length ∧ D.length - q ≤ gg ∧ v10 = .int .i64 q ∧ Aside0 (TU b W0 wi))
    case atStart => exact ⟨0, Nat.zero_le _, Nat.le_refl _, rfl, HT0⟩
    case round =>
      obtain ⟨q, hq, hgg, rfl, HT⟩ := hrel
      by_cases hlt : q < D.length
      · have hltz : (q : Int) < (D.length : Int) := by omega
        have HLT := Aside0.mk hlt
        have HKQ := Aside0.mk (show wrap64 ((q : Int) + 1) = ((q + 1 : Nat) : Int) by rw [wr_id (by omega) (by have := HDL.out; omega)]; rfl)
        obtain ⟨gt, ct, u6, cl6, e, hb6, hc6, hR6⟩ := R_down HM.out hlt
        injection e with e1 _ e2
        subst e1 e2
        obtain ⟨A6, c6, rfl⟩ := Kd.R_slice hR6
        have HK3 := Aside0.mk fun W (h : TU b W0 W) => h.cell (t := 65) (by unfold leafT; omega) hb6 hc6
        have HR6 := Aside0.mk hR6
        have HAL6 := Aside0.mk (HAL.out _ (getD_memY [] hlt))
        generalize D.getD q [] = row at *
        clear hb6 hc6 hR6 hq hlt
        have k2 := HK2.out _ HT.out
        have k3 := HK3.out _ HT.out
        go_wp2_with fail
        clear k2 k3
        have HTQ := HT
        clear HT
        go_loopg [19] row.length (fun gg v19 wi => ∃ f : Nat, f ≤ row.length ∧ row.length - f ≤ gg ∧ v19 = .int .i64 f ∧ Aside0 (TU b W0 wi))
        case atStart => exact ⟨0, Nat.zero_le _, Nat.le_refl _, rfl, HTQ⟩
        case round =>
          clear HTQ
          obtain ⟨f, hf, hgg2, rfl, HT⟩ := hrel
          by_cases hltf : f < row.length
          · have hltfz : (f : Int) < (row.length : Int) := by omega
            have HLF := Aside0.mk hltf
            have HKF := Aside0.mk (show wrap64 ((f : Int) + 1) = ((f + 1 : Nat) : Int) by rw [wr_id (by omega) (by have := (HAL6.out).1; omega)]; rfl)
            obtain ⟨g6, ct6, u9, cl9, e, hb9, hc9, hR9⟩ := R_down HR6.out hltf
            injection e with e1 _ e2
            subst e1 e2
            obtain ⟨A9, c9, rfl⟩ := Kd.R_slice hR9
            have HK4 := Aside0.mk fun W (h : TU b W0 W) => h.cell (t := 66) (by unfold leafT; omega) hb9 hc9
            have HR9 := Aside0.mk hR9
            have HAL9 := Aside0.mk ((HAL6.out).2 _ (getD_memY [] hltf))
            generalize row.getD f [] = alts at *
            clear hb9 hc9 hR9 hf hltf
            have k2 := HK2.out _ HT.out
            have k3 := HK3.out _ HT.out
            have k4 := HK4.out _ HT.out
            go_wp2_with fail
            clear k2 k3 k4
            have HTQ := HT
            clear HT
            go_loopg [31] alts.length (fun gg v31 wi => ∃ i : Nat, i ≤ alts.length ∧ alts.length - i ≤ gg ∧ v31 = .int .i64 i ∧ Aside0 (TU b W0 wi))
            case atStart => exact ⟨0, Nat.zero_le _, Nat.le_refl _, rfl, HTQ⟩
            case round =>
              clear HTQ
              obtain ⟨i, hi, hgg3, rfl, HT⟩ := hrel
              by_cases hlti : i < alts.length
              · have hltiz : (i : Int) < (alts.length : Int) := by omega
                have HLI := Aside0.mk hlti
                have HKI := Aside0.mk (show wrap64 ((i : Int) + 1) = ((i + 1 : Nat) : Int) by rw [wr_id (by omega) (by have := (HAL9.out).1; omega)]; rfl)
                obtain ⟨g9, ct9, u8, cl8, e, hb8, hc8, hR8⟩ := R_down HR9.out hlti
                injection e with e1 _ e2
                subst e1 e2
                obtain ⟨A8, c8, rfl⟩ := Kd.R_slice hR8
                have HK5 := Aside0.mk fun W (h : TU b W0 W) => h.cell (t := 69) (by unfold leafT; omega) hb8 hc8
                have HR8 := Aside0.mk hR8
                have HAL8 := Aside0.mk ((HAL9.out).2 _ (getD_memX [] hlti))
                generalize alts.getD i [] = l at *
                clear hb8 hc8 hR8 hi hlti
                have k2 := HK2.out _ HT.out
                have k3 := HK3.out _ HT.out
                have k4 := HK4.out _ HT.out
                have k5 := HK5.out _ HT.out
                go_wp2_with fail
                clear k2 k3 k4 k5
                have HTQ := HT
                clear HT
                go_loopg [46] l.length (fun gg v46 wi => ∃ k : Nat, k ≤ l.length ∧ l.length - k ≤ gg ∧ v46 = .int .i64 k ∧ Aside0 (TU b W0 wi))
                case atStart => exact ⟨0, Nat.zero_le _, Nat.le_refl _, rfl, HTQ⟩
                case round =>
                  clear HTQ
                  obtain ⟨k, hk, hgg4, rfl, HT⟩ := hrel
                  by_cases hltk : k < l.length
                  · have hltkz : (k : Int) < (l.length : Int) := by omega
                    have HLK := Aside0.mk hltk
                    have HKK := Aside0.mk (show wrap64 ((k : Int) + 1) = ((k + 1 : Nat) : Int) by rw [wr_id (by omega) (by have := HAL8.out; omega)]; rfl)
                    obtain ⟨g8, ct8, cln, x, e, hbn, hgb, hcn⟩ := R_need HR8.out hltk
                    injection e with e1 _ e2
                    subst e1 e2
                    have HTd := Aside0.mk ((HT.out).below (Nat.le_trans (Nat.le_trans HBW.out HS0.out) (HT.out).hb.size) (below_drew (Below.refl wr.heap.size wr)))
                    have s0 := HK2.out _ HTd.out
                    have s1 := HK3.out _ HTd.out
                    have s2 := HK4.out _ HTd.out
                    have s3 := HK5.out _ HTd.out
                    obtain ⟨y, s4, s5⟩ := (HTd.out).num (t := 83) (by unfold leafT; omega) hbn hcn
                    have HTP := Aside0.mk fun W (h : TU b W0 W) (z : Int) => h.put (g := g8) (i := k * 2) (t := 83) (by unfold leafT; omega) hbn hgb z
                    clear hbn hcn hgb hk hltk
                    go_upto_region 13 with (fail)
                    refine wp_region_noPanic ?_
                    refine start_ (n := 31) (S := fun w' => w'.cell? ⟨w.heap.size, 2, none⟩ = some (.slice (some ⟨gt, 0, none⟩) D.length c2) ∧ w'.cell? ⟨gt, q, none⟩ = some (.slice (some ⟨g6, 0, none⟩) row.length c6) ∧ w'.cell? ⟨g6, f, none⟩ = some (.slice (some ⟨g9, 0, none⟩) alts.length c9) ∧ w'.cell? ⟨g9, i, none⟩ = some (.slice (some ⟨g8, 0, none⟩) l.length c8) ∧ w'.cell? ⟨g8, k * 2, none⟩ = some (.int .i64 y)) (ds := [30]) #[false, false, false, false, false, false, false, false, false, false, false, false, false, false, false, false, false, false, false, false, false, false, false, false, false, false, false, false, false, false, false] (by kernel_rfl) rfl rfl ⟨s0, s1, s2, s3, s4⟩ (fun hHeld => ?_)
                    refine with_tabW tab38 bits38 (fun HT_ HW_ => ?_)
                    generalize wr.drew = W5 at HTd s0 s1 s2 s3 s4 s5 hHeld ⊢
                    refine take_ (i := 0) (N := some 49) (v := ?_) (a' := ?_) #[true, false, false, false, false, false, false, false, false, false, false, false, false, false, false, false, false, false, false, false, false, false, false, false, false, false, false, false, false, false, false] rfl rfl (take_ofW HT_.out HW_.out (by kernel_rfl)) (fun _ _ _ h => h) (Or.inl ⟨by rfl, ?_⟩) hHeld ?_ ?_
                    rotate_left
                    · rintro w' ⟨s0, s1, s2, s3, s4⟩
                      go_simp
                      with_reducible rfl
                    rotate_left
                    · simp only [Act.put, List.setIfInBounds_toArray, List.set_cons_zero, List.set_cons_succ]
                      rfl
                    refine take_ (i := 1) (N := some 50) (v := ?_) (a' := ?_) #[true, true, false, false, false, false, false, false, false, false, false, false, false, false, false, false, false, false, false, false, false, false, false, false, false, false, false, false, false, false, false] rfl rfl (take_ofW HT_.out HW_.out (by kernel_rfl)) (fun _ _ _ h => h) (Or.inl ⟨by rfl, ?_⟩) hHeld ?_ ?_
                    rotate_left
                    · rintro w' ⟨s0, s1, s2, s3, s4⟩
                      go_simp
                      with_reducible rfl
                    rotate_left
                    · simp only [Act.put, List.setIfInBounds_toArray, List.set_cons_zero, List.set_cons_succ]
                      rfl
                    refine take_ (i := 2) (N := some 51) (v := ?_) (a' := ?_) #[true, true, true, false, false, false, false, false, false, false, false, false, false, false, false, false, false, false, false, false, false, false, false, false, false, false, false, false, false, false, false] rfl rfl (take_ofW HT_.out HW_.out (by kernel_rfl)) (fun _ _ _ h => h) (Or.inl ⟨by rfl, ?_⟩) hHeld ?_ ?_
                    rotate_left
                    · rintro w' ⟨s0, s1, s2, s3, s4⟩
                      go_simp
                      with_reducible rfl
                    rotate_left
                    · simp only [Act.put, List.setIfInBounds_toArray, List.set_cons_zero, List.set_cons_succ]
                      rfl
                    refine take_ (i := 3) (N := some 52) (v := ?_) (a' := ?_) #[true, true, true, true, false, false, false, false, false, false, false, false, false, false, false, false, false, false, false, false, false, false, false, false, false, false, false, false, false, false, false] rfl rfl (take_ofW HT_.out HW_.out (by kernel_rfl)) (fun _ _ _ h => h) (Or.inl ⟨by rfl, ?_⟩) hHeld ?_ ?_
                    rotate_left
                    · rintro w' ⟨s0, s1, s2, s3, s4⟩
                      go_simp
                      with_reducible rfl
                    rotate_left
                    · simp only [Act.put, List.setIfInBounds_toArray, List.set_cons_zero, List.set_cons_succ]
                      rfl
                    refine take_ (i := 4) (N := some 53) (v := ?_) (a' := ?_) #[true, true, true, true, true, false, false, false, false, false, false, false, false, false, false, false, false, false, false, false, false, false, false, false, false, false, false, false, false, false, false] rfl rfl (take_ofW HT_.out HW_.out (by kernel_rfl)) (fun _ _ _ h => h) (Or.inl ⟨by rfl, ?_⟩) hHeld ?_ ?_
                    rotate_left
                    · rintro w' ⟨s0, s1, s2, s3, s4⟩
                      go_simp
                      with_reducible rfl
                    rotate_left
                    · simp only [Act.put, List.setIfInBounds_toArray, List.set_cons_zero, List.set_cons_succ]
                      rfl
                    refine take_ (i := 5) (N := some 54) (v := ?_) (a' := ?_) #[true, true, true, true, true, true, false, false, false, false, false, false, false, false, false, false, false, false, false, false, false, false, false, false, false, false, false, false, false, false, false] rfl rfl (take_ofW HT_.out HW_.out (by kernel_rfl)) (fun _ _ _ h => h) (Or.inl ⟨by rfl, ?_⟩) hHeld ?_ ?_
                    rotate_left
                    · rintro w' ⟨s0, s1, s2, s3, s4⟩
                      go_simp
                      with_reducible rfl
                    rotate_left
                    · simp only [Act.put, List.setIfInBounds_toArray, List.set_cons_zero, List.set_cons_succ]
                      rfl
                    refine take_ (i := 6) (N := some 55) (v := ?_) (a' := ?_) #[true, true, true, true, true, true, true, false, false, false, false, false, false, false, false, false, false, false, false, false, false, false, false, false, false, false, false, false, false, false, false] rfl rfl (take_ofW HT_.out HW_.out (by kernel_rfl)) (fun _ _ _ h => h) (Or.inl ⟨by rfl, ?_⟩) hHeld ?_ ?_
                    rotate_left
                    · rintro w' ⟨s0, s1, s2, s3, s4⟩
                      go_simp
                      with_reducible rfl
                    rotate_left
                    · simp only [Act.put, List.setIfInBounds_toArray, List.set_cons_zero, List.set_cons_succ]
                      rfl
                    refine take_ (i := 7) (N := some 56) (v := ?_) (a' := ?_) #[true, true, true, true, true, true, true, true, false, false, false, false, false, false, false, false, false, false, false, false, false, false, false, false, false, false, false, false, false, false, false] rfl rfl (take_ofW HT_.out HW_.out (by kernel_rfl)) (fun _ _ _ h => h) (Or.inl ⟨by rfl, ?_⟩) hHeld ?_ ?_
                    rotate_left
                    · rintro w' ⟨s0, s1, s2, s3, s4⟩
                      go_simp
                      with_reducible rfl
                    rotate_left
                    · simp only [Act.put, List.setIfInBounds_toArray, List.set_cons_zero, List.set_cons_succ]
                      rfl
                    refine take_ (i := 8) (N := some 57) (v := ?_) (a' := ?_) #[true, true, true, true, true, true, true, true, true, false, false, false, false, false, false, false, false, false, false, false, false, false, false, false, false, false, false, false, false, false, false] rfl rfl (take_ofW HT_.out HW_.out (by kernel_rfl)) (fun _ _ _ h => h) (Or.inl ⟨by rfl, ?_⟩) hHeld ?_ ?_
                    rotate_left
                    · rintro w' ⟨s0, s1, s2, s3, s4⟩
                      go_simp
                      with_reducible rfl
                    rotate_left
                    · simp only [Act.put, List.setIfInBounds_toArray, List.set_cons_zero, List.set_cons_succ]
                      rfl
                    refine take_ (i := 9) (N := some 58) (v := ?_) (a' := ?_) #[true, true, true, true, true, true, true, true, true, true, false, false, false, false, false, false, false, false, false, false, false, false, false, false, false, false, false, false, false, false, false] rfl rfl (take_ofW HT_.out HW_.out (by kernel_rfl)) (fun _ _ _ h => h) (Or.inl ⟨by rfl, ?_⟩) hHeld ?_ ?_
                    rotate_left
                    · rintro w' ⟨s0, s1, s2, s3, s4⟩
                      go_simp
                      with_reducible rfl
                    rotate_left
                    · simp only [Act.put, List.setIfInBounds_toArray, List.set_cons_zero, List.set_cons_succ]
                      rfl
                    refine take_ (i := 10) (N := some 59) (v := ?_) (a' := ?_) #[true, true, true, true, true, true, true, true, true, true, true, false, false, false, false, false, false, false, false, false, false, false, false, false, false, false, false, false, false, false, false] rfl rfl (take_ofW HT_.out HW_.out (by kernel_rfl)) (fun _ _ _ h => h) (Or.inl ⟨by rfl, ?_⟩) hHeld ?_ ?_
                    rotate_left
                    · rintro w' ⟨s0, s1, s2, s3, s4⟩
                      go_simp
                      with_reducible rfl
                    rotate_left
                    · simp only [Act.put, List.setIfInBounds_toArray, List.set_cons_zero, List.set_cons_succ]
                      rfl
                    refine take_ (i := 11) (N := some 60) (v := ?_) (a' := ?_) #[true, true, true, true, true, true, true, true, true, true, true, true, false, false, false, false, false, false, false, false, false, false, false, false, false, false, false, false, false, false, false] rfl rfl (take_ofW HT_.out HW_.out (by kernel_rfl)) (fun _ _ _ h => h) (Or.inl ⟨by rfl, ?_⟩) hHeld ?_ ?_
                    rotate_left
                    · rintro w' ⟨s0, s1, s2, s3, s4⟩
                      go_simp
                      with_reducible rfl
                    rotate_left
                    · simp only [Act.put, List.setIfInBounds_toArray, List.set_cons_zero, List.set_cons_succ]
                      rfl
                    refine take_ (i := 12) (N := some 61) (v := ?_) (a' := ?_) #[true, true, true, true, true, true, true, true, true, true, true, true, true, false, false, false, false, false, false, false, false, false, false, false, false, false, false, false, false, false, false] rfl rfl (take_ofW HT_.out HW_.out (by kernel_rfl)) (fun _ _ _ h => h) (Or.inl ⟨by rfl, ?_⟩) hHeld ?_ ?_
                    rotate_left
                    · rintro w' ⟨s0, s1, s2, s3, s4⟩
                      go_simp
                      with_reducible rfl
                    rotate_left
                    · simp only [Act.put, List.setIfInBounds_toArray, List.set_cons_zero, List.set_cons_succ]
                      rfl
                    refine take_ (i := 13) (N := some 62) (v := ?_) (a' := ?_) #[true, true, true, true, true, true, true, true, true, true, true, true, true, true, false, false, false, false, false, false, false, false, false, false, false, false, false, false, false, false, false] rfl rfl (take_ofW HT_.out HW_.out (by kernel_rfl)) (fun _ _ _ h => h) (Or.inl ⟨by rfl, ?_⟩) hHeld ?_ ?_
                    rotate_left
                    · rintro w' ⟨s0, s1, s2, s3, s4⟩
                      go_simp
                      with_reducible rfl
                    rotate_left
                    · simp only [Act.put, List.setIfInBounds_toArray, List.set_cons_zero, List.set_cons_succ]
                      rfl
                    refine take_ (i := 14) (N := some 63) (v := ?_) (a' := ?_) #[true, true, true, true, true, true, true, true, true, true, true, true, true, true, true, false, false, false, false, false, false, false, false, false, false, false, false, false, false, false, false] rfl rfl (take_ofW HT_.out HW_.out (by kernel_rfl)) (fun _ _ _ h => h) (Or.inl ⟨by rfl, ?_⟩) hHeld ?_ ?_
                    rotate_left
                    · rintro w' ⟨s0, s1, s2, s3, s4⟩
                      go_simp
                      with_reducible rfl
                    rotate_left
                    · simp only [Act.put, List.setIfInBounds_toArray, List.set_cons_zero, List.set_cons_succ]
                      rfl
                    refine take_ (i := 15) (N := some 64) (v := ?_) (a' := ?_) #[true, true, true, true, true, true, true, true, true, true, true, true, true, true, true, true, false, false, false, false, false, false, false, false, false, false, false, false, false, false, false] rfl rfl (take_ofW HT_.out HW_.out (by kernel_rfl)) (fun _ _ _ h => h) (Or.inl ⟨by rfl, ?_⟩) hHeld ?_ ?_
                    rotate_left
                    · rintro w' ⟨s0, s1, s2, s3, s4⟩
                      go_simp
                      with_reducible rfl
                    rotate_left
                    · simp only [Act.put, List.setIfInBounds_toArray, List.set_cons_zero, List.set_cons_succ]
                      rfl
                    refine take_ (i := 16) (N := some 65) (v := ?_) (a' := ?_) #[true, true, true, true, true, true, true, true, true, true, true, true, true, true, true, true, true, false, false, false, false, false, false, false, false, false, false, false, false, false, false] rfl rfl (take_ofW HT_.out HW_.out (by kernel_rfl)) (fun _ _ _ h => h) (Or.inl ⟨by rfl, ?_⟩) hHeld ?_ ?_
                    rotate_left
                    · rintro w' ⟨s0, s1, s2, s3, s4⟩
                      go_simp
                      with_reducible rfl
                    rotate_left
                    · simp only [Act.put, List.setIfInBounds_toArray, List.set_cons_zero, List.set_cons_succ]
                      rfl
                    refine take_ (i := 17) (N := some 66) (v := ?_) (a' := ?_) #[true, true, true, true, true, true, true, true, true, true, true, true, true, true, true, true, true, true, false, false, false, false, false, false, false, false, false, false, false, false, false] rfl rfl (take_ofW HT_.out HW_.out (by kernel_rfl)) (fun _ _ _ h => h) (Or.inl ⟨by rfl, ?_⟩) hHeld ?_ ?_
                    rotate_left
                    · rintro w' ⟨s0, s1, s2, s3, s4⟩
                      go_simp
                      with_reducible rfl
                    rotate_left
                    · simp only [Act.put, List.setIfInBounds_toArray, List.set_cons_zero, List.set_cons_succ]
                      rfl
                    refine take_ (i := 18) (N := some 67) (v := ?_) (a' := ?_) #[true, true, true, true, true, true, true, true, true, true, true, true, true, true, true, true, true, true, true, false, false, false, false, false, false, false, false, false, false, false, false] rfl rfl (take_ofW HT_.out HW_.out (by kernel_rfl)) (fun _ _ _ h => h) (Or.inl ⟨by rfl, ?_⟩) hHeld ?_ ?_
                    rotate_left
                    · rintro w' ⟨s0, s1, s2, s3, s4⟩
                      go_simp
                      with_reducible rfl
                    rotate_left
                    · simp only [Act.put, List.setIfInBounds_toArray, List.set_cons_zero, List.set_cons_succ]
                      rfl
                    refine take_ (i := 19) (N := some 68) (v := ?_) (a' := ?_) #[true, true, true, true, true, true, true, true, true, true, true, true, true, true, true, true, true, true, true, true, false, false, false, false, false, false, false, false, false, false, false] rfl rfl (take_ofW HT_.out HW_.out (by kernel_rfl)) (fun _ _ _ h => h) (Or.inl ⟨by rfl, ?_⟩) hHeld ?_ ?_
                    rotate_left
                    · rintro w' ⟨s0, s1, s2, s3, s4⟩
                      go_simp
                      with_reducible rfl
                    rotate_left
                    · simp only [Act.put, List.setIfInBounds_toArray, List.set_cons_zero, List.set_cons_succ]
                      rfl
                    refine take_ (i := 20) (N := some 69) (v := ?_) (a' := ?_) #[true, true, true, true, true, true, true, true, true, true, true, true, true, true, true, true, true, true, true, true, true, false, false, false, false, false, false, false, false, false, false] rfl rfl (take_ofW HT_.out HW_.out (by kernel_rfl)) (fun _ _ _ h => h) (Or.inl ⟨by rfl, ?_⟩) hHeld ?_ ?_
                    rotate_left
                    · rintro w' ⟨s0, s1, s2, s3, s4⟩
                      go_simp
                      with_reducible rfl
                    rotate_left
                    · simp only [Act.put, List.setIfInBounds_toArray, List.set_cons_zero, List.set_cons_succ]
                      rfl
                    refine take_ (i := 21) (N := some 70) (v := ?_) (a' := ?_) #[true, true, true, true, true, true, true, true, true, true, true, true, true, true, true, true, true, true, true, true, true, true, false, false, false, false, false, false, false, false, false] rfl rfl (take_ofW HT_.out HW_.out (by kernel_rfl)) (fun _ _ _ h => h) (Or.inl ⟨by rfl, ?_⟩) hHeld ?_ ?_
                    rotate_left
                    · rintro w' ⟨s0, s1, s2, s3, s4⟩
                      go_simp
                      with_reducible rfl
                    rotate_left
                    · simp only [Act.put, List.setIfInBounds_toArray, List.set_cons_zero, List.set_cons_succ]
                      rfl
                    refine take_ (i := 22) (N := some 71) (v := ?_) (a' := ?_) #[true, true, true, true, true, true, true, true, true, true, true, true, true, true, true, true, true, true, true, true, true, true, true, false, false, false, false, false, false, false, false] rfl rfl (take_ofW HT_.out HW_.out (by kernel_rfl)) (fun _ _ _ h => h) (Or.inl ⟨by rfl, ?_⟩) hHeld ?_ ?_
                    rotate_left
                    · rintro w' ⟨s0, s1, s2, s3, s4⟩
                      go_simp
                      with_reducible rfl
                    rotate_left
                    · simp only [Act.put, List.setIfInBounds_toArray, List.set_cons_zero, List.set_cons_succ]
                      rfl
                    refine take_ (i := 23) (N := some 72) (v := ?_) (a' := ?_) #[true, true, true, true, true, true, true, true, true, true, true, true, true, true, true, true, true, true, true, true, true, true, true, true, false, false, false, false, false, false, false] rfl rfl (take_ofW HT_.out HW_.out (by kernel_rfl)) (fun _ _ _ h => h) (Or.inl ⟨by rfl, ?_⟩) hHeld ?_ ?_
                    rotate_left
                    · rintro w' ⟨s0, s1, s2, s3, s4⟩
                      go_simp
                      with_reducible rfl
                    rotate_left
                    · simp only [Act.put, List.setIfInBounds_toArray, List.set_cons_zero, List.set_cons_succ]
                      rfl
                    refine take_ (i := 24) (N := some 73) (v := ?_) (a' := ?_) #[true, true, true, true, true, true, true, true, true, true, true, true, true, true, true, true, true, true, true, true, true, true, true, true, true, false, false, false, false, false, false] rfl rfl (take_ofW HT_.out HW_.out (by kernel_rfl)) (fun _ _ _ h => h) (Or.inl ⟨by rfl, ?_⟩) hHeld ?_ ?_
                    rotate_left
                    · rintro w' ⟨s0, s1, s2, s3, s4⟩
                      go_simp
                      with_reducible rfl
                    rotate_left
                    · simp only [Act.put, List.setIfInBounds_toArray, List.set_cons_zero, List.set_cons_succ]
                      rfl
                    refine take_ (i := 25) (N := some 74) (v := ?_) (a' := ?_) #[true, true, true, true, true, true, true, true, true, true, true, true, true, true, true, true, true, true, true, true, true, true, true, true, true, true, false, false, false, false, false] rfl rfl (take_ofW HT_.out HW_.out (by kernel_rfl)) (fun _ _ _ h => h) (Or.inl ⟨by rfl, ?_⟩) hHeld ?_ ?_
                    rotate_left
                    · rintro w' ⟨s0, s1, s2, s3, s4⟩
                      go_simp
                      with_reducible rfl
                    rotate_left
                    · simp only [Act.put, List.setIfInBounds_toArray, List.set_cons_zero, List.set_cons_succ]
                      rfl
                    refine take_ (i := 26) (N := some 75) (v := ?_) (a' := ?_) #[true, true, true, true, true, true, true, true, true, true, true, true, true, true, true, true, true, true, true, true, true, true, true, true, true, true, true, false, false, false, false] rfl rfl (take_ofW HT_.out HW_.out (by kernel_rfl)) (fun _ _ _ h => h) (Or.inl ⟨by rfl, ?_⟩) hHeld ?_ ?_
                    rotate_left
                    · rintro w' ⟨s0, s1, s2, s3, s4⟩
                      go_simp
                      with_reducible rfl
                    rotate_left
                    · simp only [Act.put, List.setIfInBounds_toArray, List.set_cons_zero, List.set_cons_succ]
                      rfl
                    refine take_ (i := 27) (N := some 76) (v := ?_) (a' := ?_) #[true, true, true, true, true, true, true, true, true, true, true, true, true, true, true, true, true, true, true, true, true, true, true, true, true, true, true, true, false, false, false] rfl rfl (take_ofW HT_.out HW_.out (by kernel_rfl)) (fun _ _ _ h => h) (Or.inl ⟨by rfl, ?_⟩) hHeld ?_ ?_
                    rotate_left
                    · rintro w' ⟨s0, s1, s2, s3, s4⟩
                      go_simp
                      with_reducible rfl
                    rotate_left
                    · simp only [Act.put, List.setIfInBounds_toArray, List.set_cons_zero, List.set_cons_succ]
                      rfl
                    refine take_ (i := 28) (N := some 77) (v := ?_) (a' := ?_) #[true, true, true, true, true, true, true, true, true, true, true, true, true, true, true, true, true, true, true, true, true, true, true, true, true, true, true, true, true, false, false] rfl rfl (take_ofW HT_.out HW_.out (by kernel_rfl)) (fun _ _ _ h => h) (Or.inl ⟨by rfl, ?_⟩) hHeld ?_ ?_
                    rotate_left
                    · rintro w' ⟨s0, s1, s2, s3, s4⟩
                      go_simp
                      with_reducible rfl
                    rotate_left
                    · simp only [Act.put, List.setIfInBounds_toArray, List.set_cons_zero, List.set_cons_succ]
                      rfl
                    refine take_ (i := 29) (N := some 78) (v := ?_) (a' := ?_) #[true, true, true, true, true, true, true, true, true, true, true, true, true, true, true, true, true, true, true, true, true, true, true, true, true, true, true, true, true, true, false] rfl rfl (take_ofW HT_.out HW_.out (by kernel_rfl)) (fun _ _ _ h => h) (Or.inl ⟨by rfl, ?_⟩) hHeld ?_ ?_
                    rotate_left
                    · rintro w' ⟨s0, s1, s2, s3, s4⟩
                      go_simp
                      with_reducible rfl
                    rotate_left
                    · simp only [Act.put, List.setIfInBounds_toArray, List.set_cons_zero, List.set_cons_succ]
                      rfl
                    refine last_ (i := 30) (N := none) #[true, true, true, true, true, true, true, true, true, true, true, true, true, true, true, true, true, true, true, true, true, true, true, true, true, true, true, true, true, true, true] rfl rfl (one_of HT_.out (by kernel_rfl)) (by decide) (fun K hK => ?_)
                    refine skip_ (w1 := ?_) (by rfl) rfl ?_ ?_
                    rotate_left
                    · go_simp
                      rfl
                    refine hK.out _ _ ?_
                    clear hK K
                    refine done_ (done_of HT_.out (by kernel_rfl)) ?_
                    refine NoPanic.normal ?_
                    clear s0 s1 s2 s3 s4 s5 hHeld
                    go_wp2
                    go_roundg (l.length - (k + 1))
                    case measure => have := HLK.out; omega
                    case rel => exact ⟨k + 1, HLK.out, Nat.le_refl _, by rw [HKK.out], ⟨HTP.out _ HTd.out _⟩⟩
                  · obtain rfl : k = l.length := by omega
                    clear hk hgg4 hltk
                    go_wp2
                    go_roundg (alts.length - (i + 1))
                    case measure => have := HLI.out; omega
                    case rel => exact ⟨i + 1, HLI.out, Nat.le_refl _, by rw [HKI.out], HT⟩
              · obtain rfl : i = alts.length := by omega
                clear hi hgg3 hlti
                go_wp2
                go_roundg (row.length - (f + 1))
                case measure => have := HLF.out; omega
                case rel => exact ⟨f + 1, HLF.out, Nat.le_refl _, by rw [HKF.out], HT⟩
          · obtain rfl : f = row.length := by omega
            clear hf hgg2 hltf
            go_wp2
            go_roundg (D.length - (q + 1))
            case measure => have := HLT.out; omega
            case rel => exact ⟨q + 1, HLT.out, Nat.le_refl _, by rw [HKQ.out], HT⟩
      · obtain rfl : q = D.length := by omega
        clear hq hgg hlt
        go_wp2
        go_meet
        exact HT
  case rest =>
  clear HT0
  have HT := hcut
  have k0 := HK0.out _ HT.out
  go_wp2_with fail
  clear k0
  have HTQ := HT
  clear HT
  go_loopg [86] rk.length (fun gg v86 wi => ∃ j : Nat, j ≤ rk.length ∧ rk.length - j ≤ gg ∧ v86 = .int .i64 j ∧ Aside0 (TU b W0 wi))
  case atStart => exact ⟨0, Nat.zero_le _, Nat.le_refl _, rfl, HTQ⟩
  case round =>
    clear HTQ
    obtain ⟨j, hj, hgg, rfl, HT⟩ := hrel
    by_cases hltj : j < rk.length
    · have hltjz : (j : Int) < (rk.length : Int) := by omega
      have HLJ := Aside0.mk hltj
      have HKJ := Aside0.mk (show wrap64 ((j : Int) + 1) = ((j + 1 : Nat) : Int) by rw [wr_id (by omega) (by have := HRL.out; omega)]; rfl)
      obtain ⟨g3, ct3, cln, x, e, hbn, hgb, hcn⟩ := R_rank HR.out hltj
      injection e with e1 _ e2
      subst e1 e2
      have k0 := HK0.out _ HT.out
      obtain ⟨y, s4, s5⟩ := (HT.out).num (t := 3) (by unfold leafT; omega) hbn hcn
      have HTP := Aside0.mk fun W (h : TU b W0 W) (z : Int) => h.put (g := g3) (i := j) (t := 3) (by unfold leafT; omega) hbn hgb z
      clear hbn hcn hgb hj hltj
      go_wp2
      go_roundg (rk.length - (j + 1))
      case measure => have := HLJ.out; omega
      case rel => exact ⟨j + 1, HLJ.out, Nat.le_refl _, by rw [HKJ.out], ⟨HTP.out _ HT.out _⟩⟩
    · obtain rfl : j = rk.length := by omega
      have HBE := Aside0.mk ((HB0.out).trans (HT.out).hb)
      clear hj hgg hltj
      go_wp2
      refine Go.Great.bodyPost_end0 rfl rfl ?_
      exact ⟨rfl, HBE.out⟩
end Go.Proofs.YtbmcigakiibncaaGreatDoor.H
namespace Go.Proofs.YtbmcigakiibncaaGreatDoor.H
open Go.RowKit Go.Proofs.YtbmcigakiibncaaGreatDoorW.PrintWords Go.Proofs.YtbmcigakiibncaaGreatDoorW.PrintLast Go.Proofs.YtbmcigakiibncaaGreatDoorW.PrintMore
open Go.Proofs.YtbmcigakiibncaaGreatDoor.Q (S28 k28 z28 rd_T28 at_T28)
set_option linter.unusedVariables false
set_option linter.unusedSimpArgs false
theorem nodes_of {rk : List Int} {t : S28} (h : treeOk rk t = true) : nodes t ≤ 20000 := by
  unfold treeOk at h
  simp only [Bool.and_eq_true, decide_eq_true_eq] at h
  exact h.1.1
end Go.Proofs.YtbmcigakiibncaaGreatDoor.H
namespace Go.Proofs.YtbmcigakiibncaaGreatDoor.H
open Go.RowKit Go.Proofs.YtbmcigakiibncaaGreatDoorW.PrintWords Go.Proofs.YtbmcigakiibncaaGreatDoorW.PrintLast Go.Proofs.YtbmcigakiibncaaGreatDoorW.PrintMore
open Go.Proofs.YtbmcigakiibncaaGreatDoor.Q (S28 k28 z28 rd_T28)
set_option linter.unusedVariables false
set_option linter.unusedSimpArgs false
theorem tcopy_ev (N : Nat) : ∀ t : S28, nodes t ≤ N → N ≤ 20000 → Ev (fun k => Q.virgationref06_Copy.f k t.f0 t.f1) (t.f0, t.f1) := by
  induction N with
  | zero => intro t h; have := nodes_pos t; omega
  | succ N ih =>
    intro t h hN
    obtain ⟨s, l⟩ := t
    rw [nodes] at h
    have hll := lens_le (l := l)
    have loop : ∀ d j : Nat, l.length - j = d → j ≤ l.length → Ev (fun k => Q.virgationref06_Copy.l0 k l (l.length : Int) (j : Int) s (l.take j)) (s, l) := by
      intro d
      induction d with
      | zero =>
        intro j hd hj
        rw [List.take_of_length_le (by omega)]
        refine ev_end fun k => ?_
        simp only [Q.virgationref06_Copy.l0]
        rw [if_neg (by omega)]
      | succ d ihd =>
        intro j hd hj
        have hlt : j < l.length := by omega
        have e1 := ih l[j] (by have := nodes_mem (List.getElem_mem hlt); omega) (by omega)
        have e2 := ihd (j + 1) (by omega) (by omega)
        rw [show ((j + 1 : Nat) : Int) = wrap64 ((j : Int) + 1) from (wrap_succ (i := (j : Int)) (by omega) (by omega)).symm] at e2
        have ht : l.take (j + 1) = l.take j ++ [l[j]] := by rw [List.take_add_one, List.getElem?_eq_getElem hlt]; rfl
        rw [ht] at e2
        refine ev_next (Ev.bind (f := fun k (bt : Int × List S28) => if (l.take j).length < 4398046511104 then Q.virgationref06_Copy.l0 k l (l.length : Int) (wrap64 ((j : Int) + 1)) s (l.take j ++ [(⟨bt.1, bt.2⟩ : S28)]) else none) e1 ?_) fun k => ?_
        · have e3 : (fun k => Q.virgationref06_Copy.l0 k l (l.length : Int) (wrap64 ((j : Int) + 1)) s (l.take j ++ [l[j]])) = fun k => if (l.take j).length < 4398046511104 then Q.virgationref06_Copy.l0 k l (l.length : Int) (wrap64 ((j : Int) + 1)) s (l.take j ++ [(⟨l[j].f0, l[j].f1⟩ : S28)]) else none := by
            funext k
            have h9 : (l.take j).length < 4398046511104 := by rw [List.length_take]; omega
            have he : (⟨l[j].f0, l[j].f1⟩ : S28) = l[j] := by cases l[j]; rfl
            rw [if_pos h9, he]
          rw [e3] at e2
          exact e2
        · simp only [Q.virgationref06_Copy.l0]
          rw [if_pos (by omega), if_pos (by omega), if_pos (by omega), rdT_at hlt]
    have e := loop l.length 0 (by omega) (by omega)
    refine ev_next e fun k => ?_
    simp only [Q.virgationref06_Copy.f]; rfl
theorem tequal_ev (N : Nat) : ∀ t : S28, nodes t ≤ N → N ≤ 20000 → Ev (fun k => Q.virgationref06_Equal.f k t.f0 t.f1 t.f0 t.f1) true := by
  induction N with
  | zero => intro t h; have := nodes_pos t; omega
  | succ N ih =>
    intro t h hN
    obtain ⟨s, l⟩ := t
    rw [nodes] at h
    have hll := lens_le (l := l)
    have loop : ∀ d j : Nat, l.length - j = d → j ≤ l.length → Ev (fun k => Q.virgationref06_Equal.l0 k (l.length : Int) (j : Int) s l s l) true := by
      intro d
      induction d with
      | zero =>
        intro j hd hj
        refine ev_end fun k => ?_
        simp only [Q.virgationref06_Equal.l0]
        rw [if_neg (by omega)]
      | succ d ihd =>
        intro j hd hj
        have hlt : j < l.length := by omega
        have e1 := ih l[j] (by have := nodes_mem (List.getElem_mem hlt); omega) (by omega)
        have e2 := ihd (j + 1) (by omega) (by omega)
        rw [show ((j + 1 : Nat) : Int) = wrap64 ((j : Int) + 1) from (wrap_succ (i := (j : Int)) (by omega) (by omega)).symm] at e2
        refine ev_next (Ev.bind (f := fun k t => if t = true then Q.virgationref06_Equal.l0 k (l.length : Int) (wrap64 ((j : Int) + 1)) s l s l else some false) e1 ?_) fun k => ?_
        · simpa using e2
        · simp only [Q.virgationref06_Equal.l0]
          rw [if_pos (by omega), if_pos (by omega), if_pos (by omega), if_pos (by omega), rdT_at hlt]
    have e := loop l.length 0 (by omega) (by omega)
    have e0 : Ev (fun k => Q.virgationref06_Equal.j0 k false s l s l) true := by
      refine ev_next e fun k => ?_
      simp only [Q.virgationref06_Equal.j0]
      rw [if_neg (by decide)]; rfl
    refine ev_next e0 fun k => ?_
    simp only [Q.virgationref06_Equal.f]
    rw [if_pos trivial, show ((l.length : Int) != (l.length : Int)) = false by simp]
theorem tcopy_calls {t : S28} (hn : nodes t ≤ 20000) (A : Option Addr) (c : Nat) (w : World) (hC : Kd.C k28 w A t.f1.length t.f1) (hc : t.f1.length ≤ c) :
    Calls Tryz.prog 37 #[.agg #[.int .i64 t.f0, .slice A t.f1.length c]] w fun E w' => ∃ B d, E = .returned (.agg #[.int .i64 t.f0, .slice B t.f1.length d]) ∧ Kd.C k28 w' B t.f1.length t.f1 ∧ t.f1.length ≤ d ∧ Below w.heap.size w w' := by
  obtain ⟨k, hk⟩ := (tcopy_ev 20000 t hn (Nat.le_refl _)).rounds
  refine (Q.virgationref06_Copy.calls k t.f0 A c t.f1 t.f0 t.f1 w hC hc hk).mono ?_
  rintro E w' ⟨v, rfl, hR, hb⟩
  obtain ⟨B, d, rfl, hl, hC'⟩ := Kd.R_reads hR
  exact ⟨B, d, rfl, hC', hl, hb⟩
theorem tequal_calls {t : S28} (hn : nodes t ≤ 20000) (A : Option Addr) (c : Nat) (B : Option Addr) (d : Nat) (w : World) (hC : Kd.C k28 w A t.f1.length t.f1) (hc : t.f1.length ≤ c) (hD : Kd.C k28 w B t.f1.length t.f1) (hd : t.f1.length ≤ d) :
    Calls Tryz.prog 39 #[.agg #[.int .i64 t.f0, .slice A t.f1.length c], .agg #[.int .i64 t.f0, .slice B t.f1.length d]] w fun E w' => E = .returned (.bool true) ∧ Below w.heap.size w w' := by
  obtain ⟨k, hk⟩ := (tequal_ev 20000 t hn (Nat.le_refl _)).rounds
  exact Q.virgationref06_Equal.calls k t.f0 A c t.f1 t.f0 B d t.f1 true w hC hc hD hd hk
end Go.Proofs.YtbmcigakiibncaaGreatDoor.H
namespace Go.Proofs.YtbmcigakiibncaaGreatDoor.H
open Go.RowKit Go.Proofs.YtbmcigakiibncaaGreatDoorW.PrintWords Go.Proofs.YtbmcigakiibncaaGreatDoorW.PrintLast Go.Proofs.YtbmcigakiibncaaGreatDoorW.PrintMore
set_option linter.unusedVariables false
set_option linter.unusedSimpArgs false
set_option maxHeartbeats 8000000 in
set_option maxRecDepth 100000 in
theorem wide_calls {rk : List Int} {st : Int} {M : Mv} (hv : auB rk st M = true) (A1 : Option Addr) (c1 : Nat) (A2 : Option Addr) (c2 : Nat) (w : World) (hM : Kd.C kA3 w A2 M.length M) :
    Calls Tryz.prog 20 #[.agg #[.slice A1 rk.length c1, .int .i64 st, .slice A2 M.length c2]] w fun E w' => ∃ b, E = .returned (.bool b) ∧ Below w.heap.size w w' := by
  have HM := Aside0.mk hM
  have HOK := Aside0.mk (auOk hv)
  have HGA := Aside0.mk (au_good hv)
  have HMN := Aside0.mk ((auOk hv).nM)
  have HB0 := Aside0.mk (below_alloc (Below.refl w.heap.size w) (.cells #[.slice A1 rk.length c1, .int .i64 st, .slice A2 M.length c2] 25))
  have HX0 := Aside0.mk (blk_new w (.cells #[.slice A1 rk.length c1, .int .i64 st, .slice A2 M.length c2] 25))
  clear hM hv
  go_enter Tryz.func20, Tryz.ntmps20
  go_upto_region 1 with (fail)
  generalize w.alloc (.cells #[.slice A1 rk.length c1, .int .i64 st, .slice A2 M.length c2] 25) = W0 at *
  have k2 : W0.cell? ⟨w.heap.size, 2, none⟩ = some (.slice A2 M.length c2) := (blk_cell HX0.out 2).trans rfl
  go_wp2_with fail
  clear k2
  go_loopg [13] M.length (fun gg v13 wi => ∃ q : Nat, q ≤ M.length ∧ M.length - q ≤ gg ∧ v13 = .int .i64 q ∧ Aside0 (Below w.heap.size w wi))
  case atStart => exact ⟨0, Nat.zero_le _, Nat.le_refl _, rfl, HB0⟩
  case round =>
    clear HB0 HX0
    obtain ⟨q, hq, hgg, rfl, HB⟩ := hrel
    by_cases hlt : q < M.length
    · have hltz : (q : Int) < (M.length : Int) := by omega
      have HLT := Aside0.mk hlt
      obtain ⟨ad, A0, c0, e, hk, hc0, hrow⟩ := at_sl HM.out q hlt
      subst e
      replace hk := pw_cell_below (HB.out) hk
      have HROW := Aside0.mk hrow
      have HRM := Aside0.mk (getD_memY [] hlt)
      have HKQ := Aside0.mk (show wrap64 ((q : Int) + 1) = ((q + 1 : Nat) : Int) by rw [wr_id (by omega) (by have := HMN.out; omega)]; rfl)
      generalize hrw : M.getD q [] = row at *
      have HRL2 := Aside0.mk (show row.length ≤ 24 by rw [(HOK.out).row row HRM.out]; exact (HOK.out).nrk)
      clear hc0 hrow hq hrw hlt
      go_wp2_with fail
      clear hk
      go_loopg [19] row.length (fun gg v19 wi => ∃ f : Nat, f ≤ row.length ∧ row.length - f ≤ gg ∧ v19 = .int .i64 f ∧ Aside0 (Below w.heap.size w wi))
      case atStart => exact ⟨0, Nat.zero_le _, Nat.le_refl _, rfl, HB⟩
      case round =>
        clear HB
        obtain ⟨f, hf, hgg2, rfl, HB⟩ := hrel
        by_cases hltf : f < row.length
        · have hltfz : (f : Int) < (row.length : Int) := by omega
          have HLF := Aside0.mk hltf
          obtain ⟨ad3, A7, c7, e, hk, hc3, halt⟩ := at_sl HROW.out f hltf
          subst e
          replace hk := pw_cell_below (HB.out) hk
          have HAM := Aside0.mk (getD_memY [] hltf)
          have HKF := Aside0.mk (show wrap64 ((f : Int) + 1) = ((f + 1 : Nat) : Int) by rw [wr_id (by omega) (by have := HRL2.out; omega)]; rfl)
          have HGD := Aside0.mk ((HGA.out) row HRM.out _ HAM.out)
          have HSM := Aside0.mk (smallest_calls (CP wr) _ A7 c7 wr (Kd.C_below halt (HB.out)) (by have := (HGD.out).len; omega) (fun x hx => by have := asc_len ((HGD.out).asc x hx); omega) (C_heads_in (Kd.C_below halt (HB.out))))
          clear hc3 halt hf hltf
          generalize row.getD f [] = alts at *
          go_wp2_with fail
          refine (HSM.out).mono ?_
          rintro E W1 ⟨v, hs, rfl, hR, hrel, hb⟩
          obtain ⟨A8, c8, rfl, hl8, hC8⟩ := C_of_heads hR hrel hb
          have HSC := Aside0.mk hC8
          have HB1 := Aside0.mk (below_then (HB.out) (HB.out).size hb)
          have HSX := Aside0.mk (fun x hx => asc_len ((HGD.out).smallest.asc x hx))
          have HSL := Aside0.mk ((HGD.out).smallest.len)
          clear hR hrel hb hl8 hC8 HSM HB hk
          generalize smallest alts = sm at *
          go_wp2_with fail
          go_loopg [26, 7] sm.length (fun gg v26 v7 wi => ∃ (i : Nat) (n : Int), i ≤ sm.length ∧ sm.length - i ≤ gg ∧ v26 = .int .i64 i ∧ v7 = .int .i64 n ∧ Aside0 (0 ≤ n ∧ n ≤ 3000) ∧ Aside0 (Below w.heap.size w wi) ∧ Aside0 (Below W1.heap.size W1 wi))
          case atStart => exact ⟨0, 1, Nat.zero_le _, Nat.le_refl _, rfl, rfl, ⟨by decide⟩, HB1, ⟨Below.refl _ _⟩⟩
          case round =>
            clear HB1
            obtain ⟨i, n, hi, hgg3, rfl, rfl, HN, HB, HBW⟩ := hrel
            by_cases hlti : i < sm.length
            · have hltiz : (i : Int) < (sm.length : Int) := by omega
              have HLI := Aside0.mk hlti
              obtain ⟨ad4, A9, c9, e, hk, hc4, _⟩ := at_sl HSC.out i hlti
              subst e
              replace hk := pw_cell_below HBW.out hk
              have HKI := Aside0.mk (show wrap64 ((i : Int) + 1) = ((i + 1 : Nat) : Int) by rw [wr_id (by omega) (by have := HSL.out; omega)]; rfl)
              have HXL := Aside0.mk (HSX.out _ (getD_memX [] hlti))
              generalize (sm.getD i []).length = m at *
              clear hc4 hi hlti
              go_upto_region 12 with (fail)
              have HPB := Aside0.mk (show 0 ≤ n * max 1 (m : Int) ∧ n * max 1 (m : Int) ≤ 72000 by
                have h1 := (HN.out).1
                have h2 := (HN.out).2
                have h3 := HXL.out
                exact ⟨Int.mul_nonneg h1 (by omega), Int.le_trans (Int.mul_le_mul h2 (show max 1 (m : Int) ≤ 24 by omega) (by omega) (by decide)) (by decide)⟩)
              have HPW := Aside0.mk (show wrap64 (n * max 1 (m : Int)) = n * max 1 (m : Int) from wr_id (by have := (HPB.out).1; omega) (by have := (HPB.out).2; omega))
              rw [HPW.out]
              generalize n * max 1 (m : Int) = p at *
              clear hk
              by_cases hp : 3000 < p
              · go_wp2
                go_ret
                exact ⟨_, rfl, HB.out⟩
              · have HP3 := Aside0.mk (show 0 ≤ p ∧ p ≤ 3000 from ⟨(HPB.out).1, by omega⟩)
                go_wp2
                go_roundg (sm.length - (i + 1))
                case measure => have := HLI.out; omega
                case rel => exact ⟨i + 1, p, HLI.out, Nat.le_refl _, by rw [HKI.out], rfl, HP3, HB, HBW⟩
            · obtain rfl : i = sm.length := by omega
              clear hi hgg3 hlti
              go_wp2
              go_roundg (row.length - (f + 1))
              case measure => have := HLF.out; omega
              case rel => exact ⟨f + 1, HLF.out, Nat.le_refl _, by rw [HKF.out], HB⟩
        · obtain rfl : f = row.length := by omega
          clear hf hgg2 hltf
          go_wp2
          go_roundg (M.length - (q + 1))
          case measure => have := HLT.out; omega
          case rel => exact ⟨q + 1, HLT.out, Nat.le_refl _, by rw [HKQ.out], HB⟩
    · obtain rfl : q = M.length := by omega
      clear hq hgg hlt
      go_wp2
      go_ret
      exact ⟨_, rfl, HB.out⟩
end Go.Proofs.YtbmcigakiibncaaGreatDoor.H
namespace Go.Proofs.YtbmcigakiibncaaGreatDoor.H
open Go.RowKit Go.Proofs.YtbmcigakiibncaaGreatDoorW.PrintWords Go.Proofs.YtbmcigakiibncaaGreatDoorW.PrintLast Go.Proofs.YtbmcigakiibncaaGreatDoorW.PrintMore
set_option linter.unusedVariables false
set_option linter.unusedSimpArgs false
theorem dualR_form (rk : List Int) (st : Int) (M : Mv) : ((dualR rk st M).1 = 0 → auB (dualR rk st M).2.1 (dualR rk st M).2.2.1 (dualR rk st M).2.2.2 = true) ∧ ((dualR rk st M).1 ≠ 0 → (dualR rk st M).2.1 = [] ∧ (dualR rk st M).2.2.1 = 0 ∧ (dualR rk st M).2.2.2 = []) := by
  unfold dualR
  cases hv : auB rk st M with
  | false => rw [if_neg (by decide)]; exact ⟨fun h => absurd h (by decide), fun _ => ⟨rfl, rfl, rfl⟩⟩
  | true =>
    rw [if_pos rfl]
    cases hd : mvOkD M with
    | false => rw [if_neg (by decide)]; exact ⟨fun h => absurd h (by decide), fun _ => ⟨rfl, rfl, rfl⟩⟩
    | true => rw [if_pos rfl]; exact ⟨fun _ => auB_dual hv hd, fun h => absurd rfl h⟩
end Go.Proofs.YtbmcigakiibncaaGreatDoor.H
namespace Go.Proofs.YtbmcigakiibncaaGreatDoor.H
open Go.RowKit Go.Proofs.YtbmcigakiibncaaGreatDoorW.PrintWords Go.Proofs.YtbmcigakiibncaaGreatDoorW.PrintLast Go.Proofs.YtbmcigakiibncaaGreatDoorW.PrintMore
open Go.Proofs.YtbmcigakiibncaaGreatDoor.Q (S28 k28 z28 rd_T28 at_T28)
set_option linter.unusedVariables false
set_option linter.unusedSimpArgs false
theorem copy_as {rk : List Int} {st : Int} {M : Mv} (ha : auB rk st M = true) (A1 : Option Addr) (c1 : Nat) (A2 : Option Addr) (c2 : Nat) (w : World) (hr : Kd.C (Kd.int .i64) w A1 rk.length rk) (hc1 : rk.length ≤ c1) (hM : Kd.C kA3 w A2 M.length M) (hc2 : M.length ≤ c2) :
    Calls Tryz.prog 36 #[.agg #[.slice A1 rk.length c1, .int .i64 st, .slice A2 M.length c2]] w fun E w' => ∃ B1 d1 B2 d2, E = .returned (.agg #[.slice B1 rk.length d1, .int .i64 st, .slice B2 M.length d2]) ∧ Kd.C (Kd.int .i64) w' B1 rk.length rk ∧ rk.length ≤ d1 ∧ Kd.C kA3 w' B2 M.length M ∧ M.length ≤ d2 ∧ Below w.heap.size w w' := by
  refine (copy2_calls (auOk ha) A1 c1 A2 c2 w hr hc1 hM hc2).mono ?_
  rintro E w' ⟨v1, v2, hs, rfl, h1, h2, hb⟩
  obtain ⟨B1, d1, rfl, hl1, hC1⟩ := Kd.R_reads h1
  obtain ⟨B2, d2, rfl, hl2, hC2⟩ := Kd.R_reads h2.done
  exact ⟨B1, d1, B2, d2, rfl, hC1, hl1, hC2, hl2, hb⟩
theorem put_as' (rk : List Int) (M : Mv) (st : Int) (A1 : Option Addr) (c1 : Nat) (A2 : Option Addr) (c2 : Nat) (w : World)
    (hr : Kd.C (Kd.int .i64) w A1 rk.length rk) (hc1 : rk.length ≤ c1) (hM : Kd.C kA3 w A2 M.length M) :
    Calls Tryz.prog 24 #[.agg #[.slice A1 rk.length c1, .int .i64 st, .slice A2 M.length c2]] w fun E w' => ∃ v, E = .returned v ∧ Below w.heap.size w w' :=
  (put_calls rk M st A1 c1 A2 c2 w hr hc1 hM).mono fun E w' h => ⟨_, h.1, h.2⟩
theorem states_as' (rk : List Int) (M : Mv) (st mode : Int) (t : S28) (A1 : Option Addr) (c1 : Nat) (A2 : Option Addr) (c2 : Nat) (A : Option Addr) (c : Nat) (w : World)
    (hr : Kd.C (Kd.int .i64) w A1 rk.length rk) (hc1 : rk.length ≤ c1) (hM : Kd.C kA3 w A2 M.length M) (hC : Kd.C k28 w A t.f1.length t.f1) (hc : t.f1.length ≤ c) (hT : Tab w) :
    Calls Tryz.prog 13 #[.agg #[.slice A1 rk.length c1, .int .i64 st, .slice A2 M.length c2], .int .i64 mode, .agg #[.int .i64 t.f0, .slice A t.f1.length c]] w fun E w' => ∃ v, E = .returned v ∧ Below w.heap.size w w' :=
  (statesE_calls rk M st mode t A1 c1 A2 c2 A c w hr hc1 hM hC hc hT).mono fun E w' h => by obtain ⟨B, d, rfl, _, _, hb⟩ := h; exact ⟨_, rfl, hb⟩
theorem dual_made {rk : List Int} {st : Int} {M : Mv} {e : Int} {rk' : List Int} {st' : Int} {D : Mv} (h : dualR rk st M = (e, rk', st', D)) (A1 : Option Addr) (c1 : Nat) (A2 : Option Addr) (c2 : Nat) (w : World)
    (hr : Kd.C (Kd.int .i64) w A1 rk.length rk) (hc1 : rk.length ≤ c1) (hM : Kd.C kA3 w A2 M.length M) (ht : TabD w) :
    Calls Tryz.prog 21 #[.agg #[.slice A1 rk.length c1, .int .i64 st, .slice A2 M.length c2]] w fun E w' => ∃ B1 d1 B2 d2, E = .returned (.tuple #[.agg #[.slice B1 rk'.length d1, .int .i64 st', .slice B2 D.length d2], .int .i64 e]) ∧ (Kd.int .i64).R 3 w' w.heap.size (fun k => w.heap.size ≤ k) (.slice B1 rk'.length d1) rk' ∧ kA3.R 65 w' w.heap.size (fun k => w.heap.size ≤ k) (.slice B2 D.length d2) D ∧ Below w.heap.size w w' := by
  refine (adual_calls rk M st A1 c1 A2 c2 w hr hc1 hM ht).mono ?_
  rintro E w' q
  unfold DualRE at q
  rw [h] at q
  obtain ⟨v1, v2, rfl, h1, h2, h3⟩ := q
  obtain ⟨A3, c3, rfl⟩ := Kd.R_slice h1
  obtain ⟨A4, c4, rfl⟩ := Kd.R_slice h2
  exact ⟨A3, c3, A4, c4, rfl, h1, h2, h3⟩
theorem dualR_sizes {rk : List Int} {st : Int} {M : Mv} : (dualR rk st M).2.1.length ≤ 1000 ∧ (dualR rk st M).2.2.2.length ≤ 1000 ∧ ∀ row ∈ (dualR rk st M).2.2.2, row.length ≤ 1000 ∧ ∀ a ∈ row, a.length ≤ 1000 ∧ ∀ l ∈ a, l.length ≤ 1000 := by
  by_cases h0 : (dualR rk st M).1 = 0
  · have hok := auOk ((dualR_form rk st M).1 h0)
    refine ⟨by have := hok.nrk; omega, by have := hok.nM; omega, fun row hrow => ⟨by rw [hok.row row hrow]; have := hok.nrk; omega, fun a ha => ⟨by have := hok.alts row hrow a ha; omega, fun l hl => by have := hok.lens row hrow a ha l hl; omega⟩⟩⟩
  · obtain ⟨h1, _, h3⟩ := (dualR_form rk st M).2 h0
    rw [h1, h3]
    exact ⟨by decide, by decide, fun row h => by cases h⟩
set_option maxHeartbeats 8000000 in
set_option maxRecDepth 100000 in
theorem autoOwn_calls (rk : List Int) (M : Mv) (st : Int) (A1 : Option Addr) (c1 : Nat) (A2 : Option Addr) (c2 : Nat) (mode : Int) (t : S28) (A : Option Addr) (c : Nat) (w : World)
    (hr : Kd.C (Kd.int .i64) w A1 rk.length rk) (hc1 : rk.length ≤ c1) (hM : Kd.C kA3 w A2 M.length M) (hc2 : M.length ≤ c2) (hC : Kd.C k28 w A t.f1.length t.f1) (hc : t.f1.length ≤ c) (hm : MX w) (ht : TabD w) :
    Calls Tryz.prog 12 #[.agg #[.slice A1 rk.length c1, .int .i64 st, .slice A2 M.length c2], .int .i64 mode, .agg #[.int .i64 t.f0, .slice A t.f1.length c]] w fun E w' => E = .returned (.bool true) ∧ Below w.heap.size w w' := by
  obtain ⟨⟨e, rk', st', D⟩, hv⟩ : ∃ v, dualR rk st M = v := ⟨_, rfl⟩
  have hz := @dualR_sizes rk st M
  rw [hv] at hz
  have HZ := Aside0.mk hz
  have HI := Aside0.mk fun W (hW : Below w.heap.size w W) => isA_calls rk M st A1 c1 A2 c2 W (Kd.C_below hr hW) hc1 (Kd.C_below hM hW) hc2
  have HWD := Aside0.mk fun (h : auB rk st M = true) W (hW : Below w.heap.size w W) => wide_calls h A1 c1 A2 c2 W (Kd.C_below hM hW)
  have HTI := Aside0.mk fun W (hW : Below w.heap.size w W) => rtis_calls rk t A1 c1 A c W (Kd.C_below hr hW) hc1 (Kd.C_below hC hW) hc
  have HCP := Aside0.mk fun (h : auB rk st M = true) W (hW : Below w.heap.size w W) => copy_as h A1 c1 A2 c2 W (Kd.C_below hr hW) hc1 (Kd.C_below hM hW) hc2
  have HTC := Aside0.mk fun (h : treeOk rk t = true) W (hW : Below w.heap.size w W) => tcopy_calls (nodes_of h) A c W (Kd.C_below hC hW) hc
  have HCK := Aside0.mk fun W (hW : Below w.heap.size w W) => acheckG_calls rk M st A1 c1 A2 c2 W (Kd.C_below hr hW) hc1 (Kd.C_below hM hW)
  have HSM := Aside0.mk fun W (hW : Below w.heap.size w W) => asame_calls rk M st A1 c1 A2 c2 rk M st A1 c1 A2 c2 W (Kd.C_below hr hW) hc1 (Kd.C_below hM hW) hc2 (Kd.C_below hr hW) hc1 (Kd.C_below hM hW) hc2
  have HPU := Aside0.mk fun W (hW : Below w.heap.size w W) => put_as' rk M st A1 c1 A2 c2 W (Kd.C_below hr hW) hc1 (Kd.C_below hM hW)
  have HST := Aside0.mk fun W (hW : Below w.heap.size w W) => states_as' rk M st mode t A1 c1 A2 c2 A c W (Kd.C_below hr hW) hc1 (Kd.C_below hM hW) (Kd.C_below hC hW) hc (ht.below hW).tab
  have HAC := Aside0.mk fun W (hW : Below w.heap.size w W) => aisG_calls rk M st mode t A1 c1 A2 c2 A c W (Kd.C_below hr hW) hc1 (Kd.C_below hM hW) (Kd.C_below hC hW) hc (ht.below hW).tab
  have HDU := Aside0.mk fun W (hW : Below w.heap.size w W) => dual_made hv A1 c1 A2 c2 W (Kd.C_below hr hW) hc1 (Kd.C_below hM hW) (ht.below hW)
  have HRS := Aside0.mk fun (B1 : Option Addr) (d1 : Nat) (B2 : Option Addr) (d2 : Nat) W (hW : Below w.heap.size w W) (g1 : Kd.C (Kd.int .i64) W B1 rk.length rk) (g2 : rk.length ≤ d1) (g3 : Kd.C kA3 W B2 M.length M) (g4 : M.length ≤ d2) => rsame_calls rk M st A1 c1 A2 c2 rk M st B1 d1 B2 d2 W (Kd.C_below hr hW) hc1 (Kd.C_below hM hW) hc2 g1 g2 g3 g4
  have HTE := Aside0.mk fun (h : treeOk rk t = true) (B : Option Addr) (d : Nat) W (hW : Below w.heap.size w W) (g1 : Kd.C k28 W B t.f1.length t.f1) (g2 : t.f1.length ≤ d) => tequal_calls (nodes_of h) A c B d W (Kd.C_below hC hW) hc g1 g2
  have HAL := Aside0.mk fun W (hW : Below w.heap.size w W) => alive_calls W (MX.below hm hW) (ht.below hW)
  have HS := Aside0.mk (AT2.start w #[.slice A1 rk.length c1, .int .i64 st, .slice A2 M.length c2] #[.int .i64 t.f0, .slice A t.f1.length c])
  clear hr hc1 hM hC hc hc2 hm ht hv hz
  go_enter Tryz.func12, Tryz.ntmps12
  go_upto_region 1 with (fail)
  generalize ((w.alloc (.cells #[.slice A1 rk.length c1, .int .i64 st, .slice A2 M.length c2] 25)).alloc (.cells #[.int .i64 t.f0, .slice A t.f1.length c] 28)) = W1 at *
  go_cut [24] (fun v24 wx => ∃ b, v24 = .bool b ∧ Aside0 (b = false → auB rk st M = true ∧ treeOk rk t = true) ∧ Aside0 (AT2 w wx #[.slice A1 rk.length c1, .int .i64 st, .slice A2 M.length c2] #[.int .i64 t.f0, .slice A t.f1.length c]))
  case first =>
    obtain ⟨hk0, hk1, hk2⟩ := box3_cells (HS.out).h1
    obtain ⟨hk3, hk4⟩ := box2_cells (HS.out).h2
    go_wp2_with fail
    refine (HI.out _ (HS.out).hb).mono ?_
    rintro E W2 ⟨rfl, hb⟩
    have HS2 := Aside0.mk ((HS.out).below hb)
    clear hb HS hk0 hk1 hk2 hk3 hk4
    obtain ⟨hk0, hk1, hk2⟩ := box3_cells (HS2.out).h1
    obtain ⟨hk3, hk4⟩ := box2_cells (HS2.out).h2
    cases hau : auB rk st M with
    | false =>
      clear hau
      go_wp2
      go_meet
      exact ⟨true, rfl, ⟨fun h => by cases h⟩, HS2⟩
    | true =>
      have HW1 := Aside0.mk (HWD.out hau _ (HS2.out).hb)
      have HAU := Aside0.mk hau
      clear hau
      go_wp2_with fail
      refine (HW1.out).mono ?_
      rintro E W3 ⟨b, rfl, hb⟩
      have HS3 := Aside0.mk ((HS2.out).below hb)
      clear hb HS2 HW1 hk0 hk1 hk2 hk3 hk4
      obtain ⟨hk0, hk1, hk2⟩ := box3_cells (HS3.out).h1
      obtain ⟨hk3, hk4⟩ := box2_cells (HS3.out).h2
      cases b with
      | true =>
        go_wp2
        go_meet
        exact ⟨true, rfl, ⟨fun h => by cases h⟩, HS3⟩
      | false =>
        go_wp2_with fail
        refine (HTI.out _ (HS3.out).hb).mono ?_
        rintro E W4 ⟨rfl, hb⟩
        have HS4 := Aside0.mk ((HS3.out).below hb)
        clear hb HS3 hk0 hk1 hk2 hk3 hk4
        cases hto : treeOk rk t with
        | false =>
          clear hto
          go_wp2
          go_meet
          exact ⟨true, rfl, ⟨fun h => by cases h⟩, HS4⟩
        | true =>
          have HTO := Aside0.mk hto
          clear hto
          go_wp2
          go_meet
          exact ⟨false, rfl, ⟨fun h => ⟨HAU.out, HTO.out⟩⟩, HS4⟩
  case rest =>
  obtain ⟨b, rfl, HV, HS2⟩ := hcut
  clear HS HI HWD HTI
  cases b with
  | true =>
    go_wp2_with fail
    refine (HAL.out _ (HS2.out).hb).mono ?_
    rintro E W3 ⟨rfl, hb⟩
    have HS3 := Aside0.mk ((HS2.out).below hb)
    clear hb
    go_wp2
    go_ret
    exact ⟨rfl, (HS3.out).hb⟩
  | false =>
  have HAU := Aside0.mk ((HV.out) rfl).1
  have HTO := Aside0.mk ((HV.out) rfl).2
  obtain ⟨hk0, hk1, hk2⟩ := box3_cells (HS2.out).h1
  clear HV
  go_wp2_with fail
  refine (HCP.out HAU.out _ (HS2.out).hb).mono ?_
  rintro E W3 ⟨B1, d1, B2, d2, rfl, hr3, hd1, hM3, hd2, hb⟩
  have ha := below_alloc (Below.refl W3.heap.size W3) (.cells #[.slice B1 rk.length d1, .int .i64 st, .slice B2 M.length d2] 25)
  have hb4 := below_then hb hb.size ha
  have HS4 := Aside0.mk ((HS2.out).below hb4)
  have HX4 := Aside0.mk (blk_new W3 (.cells #[.slice B1 rk.length d1, .int .i64 st, .slice B2 M.length d2] 25))
  have HR4 := Aside0.mk (Kd.C_below hr3 ha)
  have HM4 := Aside0.mk (Kd.C_below hM3 ha)
  have HD1 := Aside0.mk hd1
  have HD2 := Aside0.mk hd2
  clear ha hb hb4 hr3 hd1 hM3 hd2 HS2 HCP hk0 hk1 hk2
  go_upto_region 4 with (fail)
  generalize W3.alloc (.cells #[.slice B1 rk.length d1, .int .i64 st, .slice B2 M.length d2] 25) = W4 at *
  generalize W3.heap.size = b7 at *
  obtain ⟨hk3, hk4⟩ := box2_cells (HS4.out).h2
  go_wp2_with fail
  refine (HTC.out HTO.out _ (HS4.out).hb).mono ?_
  rintro E W5 ⟨B, d, rfl, hC5, hd5, hb⟩
  have ha := below_alloc (Below.refl W5.heap.size W5) (.cells #[.int .i64 t.f0, .slice B t.f1.length d] 28)
  have hb6 := below_then hb hb.size ha
  have HS6 := Aside0.mk ((HS4.out).below hb6)
  have HX6 := Aside0.mk (blk_below HX4.out hb6)
  have HR6 := Aside0.mk (Kd.C_below HR4.out hb6)
  have HM6 := Aside0.mk (Kd.C_below HM4.out hb6)
  have HY6 := Aside0.mk (blk_new W5 (.cells #[.int .i64 t.f0, .slice B t.f1.length d] 28))
  have HC6 := Aside0.mk (Kd.C_below hC5 ha)
  have HD5 := Aside0.mk hd5
  clear ha hb hb6 hC5 hd5 HS4 HX4 HR4 HM4 HTC hk3 hk4
  go_upto_region 5 with (fail)
  generalize W5.alloc (.cells #[.int .i64 t.f0, .slice B t.f1.length d] 28) = W6 at *
  generalize W5.heap.size = b8 at *
  obtain ⟨hk0, hk1, hk2⟩ := box3_cells (HS6.out).h1
  go_wp2_with fail
  refine (HCK.out _ (HS6.out).hb).mono ?_
  rintro E W7 ⟨rfl, hb⟩
  have HB7 := Aside0.mk hb
  have HS7 := Aside0.mk ((HS6.out).below hb)
  clear hb HCK hk0 hk1 hk2
  obtain ⟨hk0, hk1, hk2⟩ := box3_cells (HS7.out).h1
  go_wp2_with fail
  refine (HSM.out _ (HS7.out).hb).mono ?_
  rintro E W8 ⟨rfl, hb⟩
  have HB8 := Aside0.mk (below_then HB7.out (HB7.out).size hb)
  have HS8 := Aside0.mk ((HS7.out).below hb)
  clear hb HSM HS7 HB7 hk0 hk1 hk2
  obtain ⟨hk0, hk1, hk2⟩ := box3_cells (HS8.out).h1
  go_wp2_with fail
  refine (HPU.out _ (HS8.out).hb).mono ?_
  rintro E W9 ⟨v9, rfl, hb⟩
  have HB9 := Aside0.mk (below_then HB8.out (HB8.out).size hb)
  have HS9 := Aside0.mk ((HS8.out).below hb)
  clear hb HPU HS8 HB8 hk0 hk1 hk2
  obtain ⟨hk0, hk1, hk2⟩ := box3_cells (HS9.out).h1
  obtain ⟨hk3, hk4⟩ := box2_cells (HS9.out).h2
  go_wp2_with fail
  refine (HST.out _ (HS9.out).hb).mono ?_
  rintro E W10 ⟨v10, rfl, hb⟩
  have HB10 := Aside0.mk (below_then HB9.out (HB9.out).size hb)
  have HS10 := Aside0.mk ((HS9.out).below hb)
  clear hb HST HS9 HB9 hk0 hk1 hk2 hk3 hk4
  obtain ⟨hk0, hk1, hk2⟩ := box3_cells (HS10.out).h1
  obtain ⟨hk3, hk4⟩ := box2_cells (HS10.out).h2
  go_wp2_with fail
  refine (HAC.out _ (HS10.out).hb).mono ?_
  rintro E W11 ⟨rfl, hb⟩
  have HB11 := Aside0.mk (below_then HB10.out (HB10.out).size hb)
  have HS11 := Aside0.mk ((HS10.out).below hb)
  clear hb HAC HS10 HB10 hk0 hk1 hk2 hk3 hk4
  obtain ⟨hk0, hk1, hk2⟩ := box3_cells (HS11.out).h1
  go_wp2_with fail
  refine (HDU.out _ (HS11.out).hb).mono ?_
  rintro E W12 ⟨E1, e1, E2, e2, rfl, hR1, hR2, hb⟩
  have ha := below_alloc (Below.refl W12.heap.size W12) (.cells #[.slice E1 rk'.length e1, .int .i64 st', .slice E2 D.length e2] 25)
  have hb13 := below_then hb hb.size ha
  have HB13 := Aside0.mk hb13
  have HX13 := Aside0.mk (blk_new W12 (.cells #[.slice E1 rk'.length e1, .int .i64 st', .slice E2 D.length e2] 25))
  have HTU := Aside0.mk (turn_calls W11.heap.size rk' st' D (.slice E1 rk'.length e1) (.slice E2 D.length e2) (W12.alloc (.cells #[.slice E1 rk'.length e1, .int .i64 st', .slice E2 D.length e2] 25)) hb13.size (Kd.R_below hR1 ha) (Kd.R_below hR2 ha) (HZ.out).1 (HZ.out).2.1 (HZ.out).2.2)
  clear ha hb hb13 hR1 hR2 HDU hk0 hk1 hk2
  go_upto_region 11 with (fail)
  generalize W12.alloc (.cells #[.slice E1 rk'.length e1, .int .i64 st', .slice E2 D.length e2] 25) = W13 at *
  generalize W12.heap.size = b9 at *
  obtain ⟨hk0, hk1, hk2⟩ := box3_cells HX13.out
  go_wp2_with fail
  refine (HTU.out).mono ?_
  rintro E W14 ⟨rfl, hb⟩
  have hb14 := (HB13.out).trans hb
  have HS14 := Aside0.mk ((HS11.out).below hb14)
  have hb15 := below_then HB11.out (HB11.out).size hb14
  have HX14 := Aside0.mk (blk_below HX6.out hb15)
  have HY14 := Aside0.mk (blk_below HY6.out hb15)
  have HRE := Aside0.mk (HRS.out B1 d1 B2 d2 _ (HS14.out).hb (Kd.C_below HR6.out hb15) HD1.out (Kd.C_below HM6.out hb15) HD2.out)
  have HC14 := Aside0.mk (Kd.C_below HC6.out hb15)
  clear hb hb14 hb15 HTU HX13 HB13 HB11 HS11 HX6 HY6 HR6 HM6 HC6 HS6 HRS hk0 hk1 hk2
  obtain ⟨hk0, hk1, hk2⟩ := box3_cells (HS14.out).h1
  obtain ⟨hk5, hk6, hk7⟩ := box3_cells HX14.out
  rw [sameB_self, HAU.out] at HRE
  go_wp2_with fail
  refine (HRE.out).mono ?_
  rintro E W15 ⟨rfl, hb⟩
  have HS15 := Aside0.mk ((HS14.out).below hb)
  have HY15 := Aside0.mk (blk_below HY14.out hb)
  have HEQ := Aside0.mk (HTE.out HTO.out B d _ (HS15.out).hb (Kd.C_below HC14.out hb) HD5.out)
  clear hb HS14 HX14 HY14 HC14 HRE HTE hk0 hk1 hk2 hk5 hk6 hk7
  obtain ⟨hk3, hk4⟩ := box2_cells (HS15.out).h2
  obtain ⟨hk5, hk6⟩ := box2_cells HY15.out
  go_wp2_with fail
  refine (HEQ.out).mono ?_
  rintro E W16 ⟨rfl, hb⟩
  have HS16 := Aside0.mk ((HS15.out).below hb)
  clear hb HS15 HY15 HEQ hk3 hk4 hk5 hk6
  go_wp2_with fail
  refine (HAL.out _ (HS16.out).hb).mono ?_
  rintro E W17 ⟨rfl, hb⟩
  have HS17 := Aside0.mk ((HS16.out).below hb)
  clear hb
  go_wp2
  go_ret
  exact ⟨rfl, (HS17.out).hb⟩
end Go.Proofs.YtbmcigakiibncaaGreatDoor.H
