/- What schemeGet_calls, handed_and_shaped, own, laidOut, laid7, mx_of_shaped, arg_scheme needs, out of my texts, by a program (slim.py). -/
import Derived.Test.YthflpbgloeimfaaGreatDoorSG3
namespace Go.Proofs.YthflpbgloeimfaaGreatDoor.H
open Go.RowKit Go.Proofs.YthflpbgloeimfaaGreatDoorW.PrintWords Go.Proofs.YthflpbgloeimfaaGreatDoorW.PrintLast Go.Proofs.YthflpbgloeimfaaGreatDoorW.PrintMore
open Go.Proofs.YthflpbgloeimfaaGreatDoor.Q (S47 k47 rd_T47 z47 at_T47 S50 k50 rd_T50 z50 at_T50 S52 k52 rd_T52 at_T52 z52 S71 k71 rd_T71 at_T71)
set_option linter.unusedVariables false
set_option linter.unusedSimpArgs false
theorem bb_new (W : World) : BB W.heap.size W.heap.size [] (W.alloc (.cells #[.pointer none, .slice none 0 0] 69)) :=
 .inl ⟨Nat.le_refl _, .slice none 0 0, aS_ W _, ⟨rfl, .inl ⟨rfl, rfl⟩⟩, fun h => by cases h⟩
def sputV (t : S47) : List UInt8 × Int := if srtB t then (srtS t, 0) else ([], 6)
set_option maxHeartbeats 8000000 in
set_option maxRecDepth 100000 in
theorem sput_calls (t : S47) (A : Option Addr) (c : Nat) (w : World) (hC : Kd.C k47 w A t.f0.length t.f0) (hc : t.f0.length ≤ c) :
  Calls Tryz.prog 46 #[.agg #[.slice A t.f0.length c]] w fun E w' => E = .returned (.tuple #[.string ⟨(sputV t).1.toArray⟩, .int .i64 (sputV t).2]) ∧ Below w.heap.size w w' := by
 have HS := mk0 fun W (hW : Below w.heap.size w W) => scheck_calls t A c W (Kd.C_below hC hW) hc
 have HC := mk0 hC
 have HL := mk0 hc
 have HB := mk0 (aA_ (Below.refl w.heap.size w) (.cells #[.slice A t.f0.length c] 47))
 have HX := mk0 (aS_ w (.cells #[.slice A t.f0.length c] 47))
 clear hC hc
 go_enter Tryz.func46, Tryz.ntmps46
 go_upto_region 1 with (fail)
 generalize w.alloc (.cells #[.slice A t.f0.length c] 47) = W1 at *
 have p0 : W1.cell? ⟨w.heap.size, 0, none⟩ = some (.slice A t.f0.length c) := (aC_ HX.out 0).trans rfl
 go_wp2_with fail
 refine (HS.out W1 HB.out).mono ?_
 rintro E w2 ⟨rfl, hb⟩
 have HB2 := mk0 (aL_ HB.out (HB.out).size hb)
 have HX2 := mk0 (aJ_ HX.out hb)
 clear hb p0 HS HB HX
 have p0 : w2.cell? ⟨w.heap.size, 0, none⟩ = some (.slice A t.f0.length c) := (aC_ HX2.out 0).trans rfl
 cases q : srtB t with
 | false =>
  have HV := mk0 (show sputV t = ([], 6) by unfold sputV; rw [q]; rfl)
  rw [show schkV t = 6 by unfold schkV; rw [q]; rfl]
  clear q
  go_wp2
  go_ret2
  exact ⟨by rw [HV.out]; rfl, HB2.out⟩
 | true =>
  have HV := mk0 (show sputV t = (srtS t, 0) by unfold sputV; rw [q]; rfl)
  have HN := mk0 (srtB_N q)
  rw [show schkV t = 0 by unfold schkV; rw [q]; rfl]
  clear q p0
  go_upto_region 5 with (fail)
  have HW := mk0 (WS.mk (w0 := w) (W := w2) (aA_ HB2.out (.cells #[.pointer none, .slice none 0 0] 69)) (aA_ (Below.refl _ _) (.cells #[.pointer none, .slice none 0 0] 69)) (KB.below (aA_ (Below.refl _ _) (.cells #[.pointer none, .slice none 0 0] 69))) (bb_new w2) (by simp))
  have HX3 := mk0 (aE_ HX2.out (.cells #[.pointer none, .slice none 0 0] 69))
  have HSZ := mk0 (show w.heap.size ≤ w2.heap.size from (HB2.out).size)
  generalize w2.alloc (.cells #[.pointer none, .slice none 0 0] 69) = w3 at *
  generalize w2.heap.size = b at *
  have p0 : w3.cell? ⟨w.heap.size, 0, none⟩ = some (.slice A t.f0.length c) := (aC_ HX3.out 0).trans rfl
  have HWR := mk0 (swrite_calls w b HSZ.out 60 t HN.out (by omega) A c [] w3 HC.out HL.out (HW.out).hb0 (HW.out).bb (HW.out).lt (by have := HN.out; simp only [List.length_nil]; omega))
  go_wp2_with fail
  refine (HWR.out).mono ?_
  rintro E w4 ⟨rfl, hw⟩
  rw [List.nil_append] at hw
  have HW4 := mk0 ((HW.out).write HSZ.out hw)
  clear hw p0 HWR HW HX3
  have HSTR := mk0 (Tryz.Builder_String_any b b (srtS t) w4 (HW4.out).bb (Nat.le_of_lt (HW4.out).lt))
  go_wp2_with fail
  refine (HSTR.out).mono ?_
  rintro E w5 ⟨rfl, hb⟩
  have HB5 := mk0 (Below.trans (HW4.out).hb0 (Below.mono hb HSZ.out))
  clear hb HSTR
  go_wp2
  go_ret2
  exact ⟨by rw [HV.out]; rfl, HB5.out⟩
mutual
def tIn (ny nf np : Nat) : S50 → Prop
 | ⟨k, n, l⟩ => ((k = 0 ∧ 0 ≤ n ∧ n < (np : Int)) ∨ (k = 1 ∧ 0 ≤ n ∧ n < (nf : Int)) ∨ (k = 2 ∧ 0 ≤ n ∧ n < (ny : Int))) ∧ tInL ny nf np l
def tInL (ny nf np : Nat) : List S50 → Prop
 | [] => True
 | a :: r => tIn ny nf np a ∧ tInL ny nf np r
end
theorem tInL_mem {ny nf np : Nat} {l : List S50} (h : tInL ny nf np l) {a : S50} (ha : a ∈ l) : tIn ny nf np a := by
 induction l with
 | nil => cases ha
 | cons x r ih =>
  rw [tInL] at h
  rcases List.mem_cons.1 ha with rfl | ha
  ·exact h.1
  ·exact ih h.2 ha
theorem tInL_of {ny nf np : Nat} {l : List S50} (h : ∀ a ∈ l, tIn ny nf np a) : tInL ny nf np l := by
 induction l with
 | nil => rw [tInL]; trivial
 | cons x r ih => rw [tInL]; exact ⟨h x (l19_ ..), ih fun a ha => h a (l20_ _ ha)⟩
theorem argsV_mem {sy : List S71} {fu pa : List S47} : ∀ {l : List S50} {s : List S47}, argsV sy fu pa l s = true → ∀ a ∈ l, ∃ x, ofV sy fu pa a = some x
 | [], s, _, a, ha => by cases ha
 | b :: r, s, h, a, ha => by
  rw [argsV_cons, l21_] at h
  rcases List.mem_cons.1 ha with rfl | ha
  ·have h1 := h.1
   unfold argOk at h1
   cases e : ofV sy fu pa a with
   | none => rw [e] at h1; cases h1
   | some x => exact ⟨x, rfl⟩
  ·exact argsV_mem h.2 a ha
theorem ofV_in_aux {sy : List S71} {fu pa : List S47} (N : Nat) : ∀ (t : S50) (x : List S47), tN t ≤ N → ofV sy fu pa t = some x → tIn sy.length fu.length pa.length t := by
 induction N with
 | zero => intro t x h; have := tN_pos t; omega
 | succ N ih =>
  intro t x h hv
  obtain ⟨k, n, l⟩ := t
  rw [tN] at h
  rw [ofV] at hv
  rw [tIn]
  cases e : headV sy fu pa k n with
  | none => rw [e] at hv; cases hv
  | some s =>
   rw [e] at hv
   simp only at hv
   refine ⟨?_, tInL_of fun a ha => ?_⟩
   ·unfold headV at e
    by_cases h0 : n < 0
    ·rw [if_pos h0] at e; cases e
    rw [if_neg h0] at e
    by_cases h1 : k = 0
    ·rw [if_pos h1] at e
     by_cases h2 : n < (pa.length : Int)
     ·exact .inl ⟨h1, by omega, h2⟩
     ·rw [if_neg h2] at e; cases e
    rw [if_neg h1] at e
    by_cases h1 : k = 1
    ·rw [if_pos h1] at e
     by_cases h2 : n < (fu.length : Int)
     ·exact .inr (.inl ⟨h1, by omega, h2⟩)
     ·rw [if_neg h2] at e; cases e
    rw [if_neg h1] at e
    by_cases h1 : k = 2
    ·rw [if_pos h1] at e
     by_cases h2 : n < (sy.length : Int)
     ·exact .inr (.inr ⟨h1, by omega, h2⟩)
     ·rw [if_neg h2] at e; cases e
    ·rw [if_neg h1] at e; cases e
   ·split at hv
    ·cases hv
    ·split at hv
     ·rename_i h3
      obtain ⟨y, hy⟩ := argsV_mem h3 a ha
      exact ih a y (by have := tN_mem ha; omega) hy
     ·cases hv
theorem ofV_in {sy : List S71} {fu pa : List S47} {t : S50} {x : List S47} (hv : ofV sy fu pa t = some x) : tIn sy.length fu.length pa.length t := ofV_in_aux _ t x (Nat.le_refl _) hv
theorem hdS_len {sy : List S71} {fs : List S52} {np : Nat} (hy : ∀ x ∈ sy, x.f0.size ≤ 24) (hf : ∀ f ∈ fs, f.f0.size ≤ 24) (hp : np ≤ 100) {k n : Int} (h : (k = 0 ∧ 0 ≤ n ∧ n < (np : Int)) ∨ (k = 1 ∧ 0 ≤ n ∧ n < (fs.length : Int)) ∨ (k = 2 ∧ 0 ≤ n ∧ n < (sy.length : Int))) : (hdS sy fs k n).length ≤ 27 := by
 unfold hdS
 rcases h with ⟨rfl, h1, h2⟩ | ⟨rfl, h1, h2⟩ | ⟨rfl, h1, h2⟩
 ·rw [if_pos rfl, l8_]
  have := dg_len (n := n.toNat) (by omega)
  omega
 ·rw [if_neg (by decide), if_pos rfl]
  obtain ⟨j, rfl⟩ := Int.eq_ofNat_of_zero_le h1
  rw [rdF_at (by omega)]
  have := hf _ (l11_ (show j < fs.length by omega))
  rw [Lib.size_eq] at this
  omega
 ·rw [if_neg (by decide), if_neg (by decide), l8_]
  obtain ⟨j, rfl⟩ := Int.eq_ofNat_of_zero_le h1
  rw [rdY_at (by omega)]
  have := hy _ (l11_ (show j < sy.length by omega))
  rw [Lib.size_eq] at this
  omega
theorem trmS_len {sy : List S71} {fs : List S52} {np : Nat} (hy : ∀ x ∈ sy, x.f0.size ≤ 24) (hf : ∀ f ∈ fs, f.f0.size ≤ 24) (hp : np ≤ 100) (N : Nat) : ∀ t : S50, tN t ≤ N → tIn sy.length fs.length np t → (trmS (hdS sy fs) t).length + 3 ≤ 30 * tN t := by
 induction N with
 | zero => intro t h; have := tN_pos t; omega
 | succ N ih =>
  intro t h hin
  obtain ⟨k, n, l⟩ := t
  rw [tN] at h ⊢
  rw [tIn] at hin
  rw [trmS, l7_]
  have hl : ∀ l : List S50, tNL l ≤ N → (∀ a ∈ l, tIn sy.length fs.length np a) → (trmSL (hdS sy fs) l).length ≤ 30 * tNL l := by
   intro l
   induction l with
   | nil => intro _ _; simp [trmSL]
   | cons a r ihr =>
    intro h hr
    rw [tNL] at h ⊢
    rw [trmSL, l8_, l7_]
    have h1 := ih a (by omega) (hr a (l19_ ..))
    have h2 := ihr (by omega) (fun x hx => hr x (l20_ _ hx))
    have h3 := wrapT_len a (trmS (hdS sy fs) a)
    omega
  have h1 := hl l (by omega) (fun a ha => tInL_mem hin.2 ha)
  have h2 := hdS_len hy hf hp hin.1
  omega
theorem trmSL_len {sy : List S71} {fs : List S52} {np : Nat} (hy : ∀ x ∈ sy, x.f0.size ≤ 24) (hf : ∀ f ∈ fs, f.f0.size ≤ 24) (hp : np ≤ 100) : ∀ l : List S50, (∀ a ∈ l, tIn sy.length fs.length np a) → (trmSL (hdS sy fs) l).length ≤ 30 * tNL l
 | [], _ => by simp [trmSL]
 | a :: r, hr => by
  rw [trmSL, tNL, l8_, l7_]
  have h1 := trmS_len hy hf hp _ a (Nat.le_refl _) (hr a (l19_ ..))
  have h2 := trmSL_len hy hf hp r (fun x hx => hr x (l20_ _ hx))
  have h3 := wrapT_len a (trmS (hdS sy fs) a)
  omega
structure TW (w0 W : World) (b : Nat) (acc : List UInt8) (b4 : Nat) (s1 s2 : Value) (b5 : Nat) (x y z : Value) (W1 : World) : Prop where
 ws : WS w0 W b acc W1
 h4 : W1.heap[b4]? = some (.cells #[s1, s2] 25 (0, 0))
 h5 : W1.heap[b5]? = some (.cells #[x, y, z] 50 (0, 0))
 n4 : b4 ≠ b
 n5 : b5 ≠ b
theorem TW.write {w0 W : World} {b : Nat} {acc acc1 : List UInt8} {b4 : Nat} {s1 s2 : Value} {b5 : Nat} {x y z : Value} {W1 W2 : World} (h : TW w0 W b acc b4 s1 s2 b5 x y z W1) (h0 : w0.heap.size ≤ b) (hw : WrE b acc1 W1 W2) : TW w0 W b acc1 b4 s1 s2 b5 x y z W2 :=
 ⟨h.ws.write h0 hw, hw.2.2.keep _ _ _ h.n4 (by decide) h.h4, hw.2.2.keep _ _ _ h.n5 (by decide) h.h5, h.n4, h.n5⟩
theorem TW.below {w0 W : World} {b : Nat} {acc : List UInt8} {b4 : Nat} {s1 s2 : Value} {b5 : Nat} {x y z : Value} {W1 W2 : World} (h : TW w0 W b acc b4 s1 s2 b5 x y z W1) (hb : Below W1.heap.size W1 W2) : TW w0 W b acc b4 s1 s2 b5 x y z W2 :=
 ⟨h.ws.below hb, aJ_ h.h4 hb, aJ_ h.h5 hb, h.n4, h.n5⟩
theorem TW.cells {w0 W : World} {b : Nat} {acc : List UInt8} {b4 : Nat} {s1 s2 : Value} {b5 : Nat} {x y z : Value} {W1 : World} (h : TW w0 W b acc b4 s1 s2 b5 x y z W1) : (W1.cell? ⟨b4, 0, none⟩ = some s1 ∧ W1.cell? ⟨b4, 1, none⟩ = some s2) ∧ W1.cell? ⟨b5, 0, none⟩ = some x ∧ W1.cell? ⟨b5, 1, none⟩ = some y ∧ W1.cell? ⟨b5, 2, none⟩ = some z :=
 ⟨⟨(aC_ h.h4 0).trans rfl, (aC_ h.h4 1).trans rfl⟩, (aC_ h.h5 0).trans rfl, (aC_ h.h5 1).trans rfl, (aC_ h.h5 2).trans rfl⟩
theorem ba_eq {a : ByteArray} {l : List UInt8} (h : a.data.toList = l) : a = ⟨l.toArray⟩ := by
 cases a with
 | mk d => cases d with
  | mk x => simp at h; rw [h]
set_option maxHeartbeats 16000000 in
set_option maxRecDepth 100000 in
theorem twrite_calls (sy : List S71) (fs : List S52) (A1 A2 : Option Addr) (c1 c2 np : Nat) (w0 : World) (h1 : Kd.C k71 w0 A1 sy.length sy) (h2 : Kd.C k52 w0 A2 fs.length fs) (hy : ∀ x ∈ sy, x.f0.size ≤ 24) (hf : ∀ f ∈ fs, f.f0.size ≤ 24) (hp : np ≤ 100) (b : Nat) (hb0 : w0.heap.size ≤ b) (N : Nat) :
  ∀ (t : S50), tN t ≤ N → N ≤ 1000000 → tIn sy.length fs.length np t → ∀ (A : Option Addr) (c : Nat) (acc : List UInt8) (W : World), Kd.C k50 w0 A t.f2.length t.f2 → t.f2.length ≤ c → Below w0.heap.size w0 W → BB b b acc W → b < W.heap.size → acc.length + 30 * tN t ≤ 1000000000000 →
  Calls Tryz.prog 47 #[.pointer (some ⟨b, 0, none⟩), .agg #[.slice A1 sy.length c1, .slice A2 fs.length c2], .agg #[.int .i64 t.f0, .int .i64 t.f1, .slice A t.f2.length c]] W fun E W' => E = .returned (.tuple #[]) ∧ WrE b (acc ++ trmS (hdS sy fs) t) W W' := by
 induction N with
 | zero => intro t h; have := tN_pos t; omega
 | succ N ih =>
  intro t hN hM hin A c acc W hC hc hB hBB hlt0 hlen
  obtain ⟨k, n, l⟩ := t
  rw [tN] at hN hlen
  rw [tIn] at hin
  have HHL := mk0 (hdS_len hy hf hp hin.1)
  have HIN := mk0 hin
  have HTL := mk0 (fun j => trmSL_len hy hf hp (l.take j) (fun a ha => tInL_mem hin.2 (List.mem_of_mem_take ha)))
  have HTI := mk0 (fun (a : S50) (ha : a ∈ l) => (tInL_mem hin.2 ha))
  have HTLL := mk0 (fun (a : S50) (ha : a ∈ l) => trmS_len hy hf hp _ a (Nat.le_refl _) (tInL_mem hin.2 ha))
  have H1 := mk0 h1
  have H2 := mk0 h2
  have HP := mk0 hp
  have H0 := mk0 hb0
  have HC := mk0 hC
  have IH := mk0 ih
  have HD := mk0 (show tNL l ≤ N ∧ N ≤ 1000000 ∧ acc.length + 30 * (tNL l + 1) ≤ 1000000000000 from ⟨by omega, by omega, hlen⟩)
  have HLEN := mk0 (show l.length ≤ 1000000 from by have := tLen_le (l := l); omega)
  have HW := mk0 (TW.mk ((WS.mk hB (Below.refl _ _) (KB.refl _ _) hBB hlt0).below (aA_ (aA_ (Below.refl W.heap.size W) (.cells #[.slice A1 sy.length c1, .slice A2 fs.length c2] 25)) (.cells #[.int .i64 k, .int .i64 n, .slice A l.length c] 50))) (aE_ (aS_ W (.cells #[.slice A1 sy.length c1, .slice A2 fs.length c2] 25)) (.cells #[.int .i64 k, .int .i64 n, .slice A l.length c] 50)) (blk_at2 W (.cells #[.slice A1 sy.length c1, .slice A2 fs.length c2] 25) (.cells #[.int .i64 k, .int .i64 n, .slice A l.length c] 50)) (by omega) (by omega))
  clear h1 h2 hy hf hp hb0 hC ih hN hM hc hB hBB hlt0 hlen hin
  show Calls Tryz.prog 47 #[.pointer (some ⟨b, 0, none⟩), .agg #[.slice A1 sy.length c1, .slice A2 fs.length c2], .agg #[.int .i64 k, .int .i64 n, .slice A l.length c]] W fun E W' => E = .returned (.tuple #[]) ∧ WrE b (acc ++ trmS (hdS sy fs) ⟨k, n, l⟩) W W'
  have HG := mk0 (show acc ++ trmS (hdS sy fs) ⟨k, n, l⟩ = (acc ++ hdS sy fs k n) ++ trmSL (hdS sy fs) l by rw [trmS, List.append_assoc])
  go_enter Tryz.func47, Tryz.ntmps47
  go_upto_region 1 with (fail)
  generalize ((W.alloc (.cells #[.slice A1 sy.length c1, .slice A2 fs.length c2] 25)).alloc (.cells #[.int .i64 k, .int .i64 n, .slice A l.length c] 50)) = W1 at *
  obtain ⟨⟨p0, p1⟩, q0, q1, q2⟩ := (HW.out).cells
  by_cases hk0 : k = 0
  ·have hn : 0 ≤ n ∧ n < 100 := by have := (HIN.out).1; have := HP.out; omega
   have HI := mk0 (fun W => itoa_calls n hn.1 hn.2 W)
   have HHD := mk0 (show hdS sy fs k n = 36 :: dg n.toNat from if_pos hk0)
   have hd : (dg n.toNat).length ≤ 2 := dg_len (by omega)
   subst hk0
   have HWS := mk0 (fun (s : ByteArray) (hs : s.data.toList = 36 :: dg n.toNat) => ws_calls b acc s _ W1 (HW.out).ws.bb hs (by have := HD.out; have := HHL.out; rw [← HHD.out]; omega) (Nat.le_of_lt (HW.out).ws.lt))
   go_wp2_with fail
   refine (HI.out _).mono ?_
   rintro E W5 ⟨rfl, rfl⟩
   go_wp2_with fail
   refine ((HWS.out) _ ?_).mono ?_
   ·first | rfl | simp
   rintro E w2 ⟨rfl, hw⟩
   rw [← HHD.out] at hw
   have HW2 := mk0 ((HW.out).write H0.out hw)
   clear hw hd HI HWS HW
   obtain ⟨⟨p0, p1⟩, q0, q1, q2⟩ := (HW2.out).cells
   go_wp2
   have HA2 := mk0 (show (acc ++ hdS sy fs 0 n).length ≤ acc.length + 27 from by have := HHL.out; rw [l7_]; omega)
   generalize acc ++ hdS sy fs 0 n = acc2 at *
   clear p0 p1 q0 q1 q2
   go_loopg [42] l.length (fun gg v42 wi => ∃ (j : Nat), j ≤ l.length ∧ l.length - j ≤ gg ∧ v42 = .int .i64 j ∧ Aside0 (TW w0 W b (acc2 ++ trmSL (hdS sy fs) (l.take j)) W.heap.size (.slice A1 sy.length c1) (.slice A2 fs.length c2) (W.heap.size + 1) (.int .i64 0) (.int .i64 n) (.slice A l.length c) wi))
   case atStart => exact ⟨0, by omega, by omega, rfl, ⟨by rw [List.take_zero, trmSL, List.append_nil]; exact HW2.out⟩⟩
   case round =>
    clear HW2
    obtain ⟨j, hj, hgg, rfl, HW⟩ := hrel
    by_cases hlt : j < l.length
    ·have hltz : (j : Int) < (l.length : Int) := by omega
     obtain ⟨ad, A9, c9, e, hx0, hx1, hx2, hl9, hC9⟩ := at_T50 HC.out (j : Int) (by omega) hltz
     subst e
     rw [rdT_at hlt] at hx0 hx1 hx2 hl9 hC9
     rw [l14_] at hx0 hx1 hx2
     replace hx0 := ((HW.out).ws.hb0.cell (l1_ w0 _ hx0)).trans hx0
     replace hx1 := ((HW.out).ws.hb0.cell (l1_ w0 _ hx1)).trans hx1
     replace hx2 := ((HW.out).ws.hb0.cell (l1_ w0 _ hx2)).trans hx2
     have HS := mk0 (show acc2 ++ trmSL (hdS sy fs) (l.take (j + 1)) = (acc2 ++ trmSL (hdS sy fs) (l.take j)) ++ (32 :: wrapT l[j] (trmS (hdS sy fs) l[j])) by rw [takeS hlt, trmSL_snoc, List.append_assoc])
     have HJ := mk0 (show tN l[j] ≤ N ∧ (acc2 ++ trmSL (hdS sy fs) (l.take j)).length + 30 * tN l[j] + 3 ≤ 1000000000000 ∧ (trmS (hdS sy fs) l[j]).length + 3 ≤ 30 * tN l[j] from by
      have h1 := tN_mem (l11_ hlt)
      have h2 := HTL.out j
      have h3 := tNL_snoc (l.take j) l[j]
      rw [← takeS hlt] at h3
      have h4 := tNL_take l (j + 1)
      have := HD.out
      have := HA2.out
      have h5 := HTLL.out _ (l11_ hlt)
      rw [l7_]
      omega)
     have HTJ := mk0 (HTI.out _ (l11_ hlt))
     generalize l[j] = u at *
     generalize acc2 ++ trmSL (hdS sy fs) (l.take j) = acc1 at *
     have HC9 := mk0 hC9
     have HL9 := mk0 hl9
     clear hC9 hl9
     go_upto_region 10 with (fail)
     have HW5 := mk0 ((HW.out).below (aA_ (Below.refl wr.heap.size wr) (.cells #[.int .i64 u.f0, .int .i64 u.f1, .slice A9 u.f2.length c9] 50)))
     have HX5 := mk0 (aS_ wr (.cells #[.int .i64 u.f0, .int .i64 u.f1, .slice A9 u.f2.length c9] 50))
     have HNB := mk0 (show wr.heap.size ≠ b from by have := (HW.out).ws.lt; omega)
     clear HW hx0 hx1 hx2
     generalize (wr.alloc (.cells #[.int .i64 u.f0, .int .i64 u.f1, .slice A9 u.f2.length c9] 50)) = w5 at *
     generalize wr.heap.size = b7 at *
     have HKX := mk0 (fun (W3 : World) (h : W3.heap[b7]? = some (.cells #[.int .i64 u.f0, .int .i64 u.f1, .slice A9 u.f2.length c9] 50 (0, 0))) => (show W3.cell? ⟨b7, 0, none⟩ = some (.int .i64 u.f0) ∧ W3.cell? ⟨b7, 1, none⟩ = some (.int .i64 u.f1) ∧ W3.cell? ⟨b7, 2, none⟩ = some (.slice A9 u.f2.length c9) from ⟨(aC_ h 0).trans rfl, (aC_ h 1).trans rfl, (aC_ h 2).trans rfl⟩))
     have HW32 := mk0 (wb32 b acc1 w5 (HW5.out).ws.bb (by have := (HJ.out).2; omega) (Nat.le_of_lt (HW5.out).ws.lt))
     go_wp2_with fail
     refine (HW32.out).mono ?_
     rintro E w6 ⟨rfl, hw⟩
     have HW6 := mk0 ((HW5.out).write H0.out hw)
     have HX6 := mk0 (hw.2.2.keep _ _ _ HNB.out (by decide) HX5.out)
     clear hw HW5 HX5 HW32
     obtain ⟨m0, m1, m2⟩ := HKX.out _ HX6.out
     obtain ⟨⟨p0, p1⟩, q0, q1, q2⟩ := (HW6.out).cells
     by_cases hz : u.f2.length = 0
     ·have hzz : ¬ (u.f2.length : Int) > 0 := by omega
      have HWR := mk0 (show wrapT u (trmS (hdS sy fs) u) = trmS (hdS sy fs) u from if_pos hz)
      have HWI := mk0 (IH.out u (HJ.out).1 (HD.out).2.1 HTJ.out A9 c9 (acc1 ++ [32]) w6 HC9.out HL9.out (HW6.out).ws.hb0 (HW6.out).ws.bb (HW6.out).ws.lt (by have := (HJ.out).2; rw [l7_, l10_]; omega))
      clear hz
      go_wp2_with fail
      refine (HWI.out).mono ?_
      rintro E w7 ⟨rfl, hw⟩
      have HW7 := mk0 ((HW6.out).write H0.out hw)
      have HX7 := mk0 (hw.2.2.keep _ _ _ HNB.out (by decide) HX6.out)
      clear hw HW6 HX6 m0 m1 m2 p0 p1 q0 q1 q2 HWI
      obtain ⟨m0, m1, m2⟩ := HKX.out _ HX7.out
      go_wp2
      go_roundg (l.length - (j + 1))
      case measure => omega
      case rel => exact ⟨j + 1, by omega, by omega, by first | rfl | (rw [wrap_succ (by omega) (by have := HLEN.out; omega)]; rfl), ⟨by rw [HS.out, HWR.out, show acc1 ++ 32 :: trmS (hdS sy fs) u = acc1 ++ [32] ++ trmS (hdS sy fs) u by simp]; exact HW7.out⟩⟩
     ·have hzz : (u.f2.length : Int) > 0 := by omega
      have HWR := mk0 (show wrapT u (trmS (hdS sy fs) u) = 40 :: (trmS (hdS sy fs) u ++ [41]) from if_neg hz)
      have HW40 := mk0 (wb40 b (acc1 ++ [32]) w6 (HW6.out).ws.bb (by have := (HJ.out).2; rw [l7_, l10_]; omega) (Nat.le_of_lt (HW6.out).ws.lt))
      clear hz
      go_wp2_with fail
      refine (HW40.out).mono ?_
      rintro E w61 ⟨rfl, hw⟩
      have HW61 := mk0 ((HW6.out).write H0.out hw)
      have HX61 := mk0 (hw.2.2.keep _ _ _ HNB.out (by decide) HX6.out)
      clear hw HW6 HX6 m0 m1 m2 p0 p1 q0 q1 q2 HW40
      obtain ⟨m0, m1, m2⟩ := HKX.out _ HX61.out
      obtain ⟨⟨p0, p1⟩, q0, q1, q2⟩ := (HW61.out).cells
      have HWI := mk0 (IH.out u (HJ.out).1 (HD.out).2.1 HTJ.out A9 c9 (acc1 ++ [32] ++ [40]) w61 HC9.out HL9.out (HW61.out).ws.hb0 (HW61.out).ws.bb (HW61.out).ws.lt (by have := (HJ.out).2; rw [l7_, l7_]; simp only [l8_, List.length_nil]; omega))
      go_wp2_with fail
      refine (HWI.out).mono ?_
      rintro E w7 ⟨rfl, hw⟩
      have HW7 := mk0 ((HW61.out).write H0.out hw)
      have HX7 := mk0 (hw.2.2.keep _ _ _ HNB.out (by decide) HX61.out)
      clear hw HW61 HX61 m0 m1 m2 p0 p1 q0 q1 q2 HWI
      obtain ⟨m0, m1, m2⟩ := HKX.out _ HX7.out
      have HW41 := mk0 (wb41 b (acc1 ++ [32] ++ [40] ++ trmS (hdS sy fs) u) w7 (HW7.out).ws.bb (by have := (HJ.out).2; rw [l7_, l7_, l7_]; simp only [l8_, List.length_nil]; omega) (Nat.le_of_lt (HW7.out).ws.lt))
      go_wp2_with fail
      refine (HW41.out).mono ?_
      rintro E w8 ⟨rfl, hw⟩
      have HW8 := mk0 ((HW7.out).write H0.out hw)
      clear hw HW7 HX7 m0 m1 m2 HW41
      go_wp2
      go_roundg (l.length - (j + 1))
      case measure => omega
      case rel => exact ⟨j + 1, by omega, by omega, by first | rfl | (rw [wrap_succ (by omega) (by have := HLEN.out; omega)]; rfl), ⟨by rw [HS.out, HWR.out, show acc1 ++ 32 :: 40 :: (trmS (hdS sy fs) u ++ [41]) = acc1 ++ [32] ++ [40] ++ trmS (hdS sy fs) u ++ [41] by simp]; exact HW8.out⟩⟩
    ·have hltz : ¬ (j : Int) < (l.length : Int) := by omega
     have hje : j = l.length := by omega
     subst hje
     rw [List.take_length] at HW
     go_wp2
     go_end0
     exact ⟨rfl, by rw [HG.out]; exact (HW.out).ws.wr⟩
  by_cases hk1 : k = 1
  ·have hn : 0 ≤ n ∧ n < (fs.length : Int) := by have := (HIN.out).1; omega
   obtain ⟨ad, As, cs, At, ct, e, hx0, hx1, hx2, hx3, hx4, hls, hCs, hlt4, hCt⟩ := at_T52 (H2.out) n hn.1 hn.2
   subst e
   replace hx0 := ((HW.out).ws.hb0.cell (l1_ w0 _ hx0)).trans hx0
   have HHD := mk0 (show hdS sy fs k n = (rd_T52 fs n).f0.data.toList from by unfold hdS; rw [if_neg hk0, if_pos hk1])
   have HWS := mk0 (ws_calls b acc (rd_T52 fs n).f0 (hdS sy fs k n) W1 (HW.out).ws.bb HHD.out.symm (by have := HD.out; have := HHL.out; omega) (Nat.le_of_lt (HW.out).ws.lt))
   have hn1 := hn.1
   have hn2 := hn.2
   subst hk1
   clear hx1 hx2 hx3 hx4 hls hCs hlt4 hCt hn hk0
   go_wp2_with fail
   refine (HWS.out).mono ?_
   rintro E w2 ⟨rfl, hw⟩
   have HW2 := mk0 ((HW.out).write H0.out hw)
   clear hw HWS HW hx0 hn1 hn2 p0 p1 q0 q1 q2
   obtain ⟨⟨p0, p1⟩, q0, q1, q2⟩ := (HW2.out).cells
   go_wp2
   have HA2 := mk0 (show (acc ++ hdS sy fs 1 n).length ≤ acc.length + 27 from by have := HHL.out; rw [l7_]; omega)
   generalize acc ++ hdS sy fs 1 n = acc2 at *
   clear p0 p1 q0 q1 q2
   go_loopg [42] l.length (fun gg v42 wi => ∃ (j : Nat), j ≤ l.length ∧ l.length - j ≤ gg ∧ v42 = .int .i64 j ∧ Aside0 (TW w0 W b (acc2 ++ trmSL (hdS sy fs) (l.take j)) W.heap.size (.slice A1 sy.length c1) (.slice (some ad) fs.length c2) (W.heap.size + 1) (.int .i64 1) (.int .i64 n) (.slice A l.length c) wi))
   case atStart => exact ⟨0, by omega, by omega, rfl, ⟨by rw [List.take_zero, trmSL, List.append_nil]; exact HW2.out⟩⟩
   case round =>
    clear HW2
    obtain ⟨j, hj, hgg, rfl, HW⟩ := hrel
    by_cases hlt : j < l.length
    ·have hltz : (j : Int) < (l.length : Int) := by omega
     obtain ⟨ad, A9, c9, e, hx0, hx1, hx2, hl9, hC9⟩ := at_T50 HC.out (j : Int) (by omega) hltz
     subst e
     rw [rdT_at hlt] at hx0 hx1 hx2 hl9 hC9
     rw [l14_] at hx0 hx1 hx2
     replace hx0 := ((HW.out).ws.hb0.cell (l1_ w0 _ hx0)).trans hx0
     replace hx1 := ((HW.out).ws.hb0.cell (l1_ w0 _ hx1)).trans hx1
     replace hx2 := ((HW.out).ws.hb0.cell (l1_ w0 _ hx2)).trans hx2
     have HS := mk0 (show acc2 ++ trmSL (hdS sy fs) (l.take (j + 1)) = (acc2 ++ trmSL (hdS sy fs) (l.take j)) ++ (32 :: wrapT l[j] (trmS (hdS sy fs) l[j])) by rw [takeS hlt, trmSL_snoc, List.append_assoc])
     have HJ := mk0 (show tN l[j] ≤ N ∧ (acc2 ++ trmSL (hdS sy fs) (l.take j)).length + 30 * tN l[j] + 3 ≤ 1000000000000 ∧ (trmS (hdS sy fs) l[j]).length + 3 ≤ 30 * tN l[j] from by
      have h1 := tN_mem (l11_ hlt)
      have h2 := HTL.out j
      have h3 := tNL_snoc (l.take j) l[j]
      rw [← takeS hlt] at h3
      have h4 := tNL_take l (j + 1)
      have := HD.out
      have := HA2.out
      have h5 := HTLL.out _ (l11_ hlt)
      rw [l7_]
      omega)
     have HTJ := mk0 (HTI.out _ (l11_ hlt))
     generalize l[j] = u at *
     generalize acc2 ++ trmSL (hdS sy fs) (l.take j) = acc1 at *
     have HC9 := mk0 hC9
     have HL9 := mk0 hl9
     clear hC9 hl9
     go_upto_region 10 with (fail)
     have HW5 := mk0 ((HW.out).below (aA_ (Below.refl wr.heap.size wr) (.cells #[.int .i64 u.f0, .int .i64 u.f1, .slice A9 u.f2.length c9] 50)))
     have HX5 := mk0 (aS_ wr (.cells #[.int .i64 u.f0, .int .i64 u.f1, .slice A9 u.f2.length c9] 50))
     have HNB := mk0 (show wr.heap.size ≠ b from by have := (HW.out).ws.lt; omega)
     clear HW hx0 hx1 hx2
     generalize (wr.alloc (.cells #[.int .i64 u.f0, .int .i64 u.f1, .slice A9 u.f2.length c9] 50)) = w5 at *
     generalize wr.heap.size = b7 at *
     have HKX := mk0 (fun (W3 : World) (h : W3.heap[b7]? = some (.cells #[.int .i64 u.f0, .int .i64 u.f1, .slice A9 u.f2.length c9] 50 (0, 0))) => (show W3.cell? ⟨b7, 0, none⟩ = some (.int .i64 u.f0) ∧ W3.cell? ⟨b7, 1, none⟩ = some (.int .i64 u.f1) ∧ W3.cell? ⟨b7, 2, none⟩ = some (.slice A9 u.f2.length c9) from ⟨(aC_ h 0).trans rfl, (aC_ h 1).trans rfl, (aC_ h 2).trans rfl⟩))
     have HW32 := mk0 (wb32 b acc1 w5 (HW5.out).ws.bb (by have := (HJ.out).2; omega) (Nat.le_of_lt (HW5.out).ws.lt))
     go_wp2_with fail
     refine (HW32.out).mono ?_
     rintro E w6 ⟨rfl, hw⟩
     have HW6 := mk0 ((HW5.out).write H0.out hw)
     have HX6 := mk0 (hw.2.2.keep _ _ _ HNB.out (by decide) HX5.out)
     clear hw HW5 HX5 HW32
     obtain ⟨m0, m1, m2⟩ := HKX.out _ HX6.out
     obtain ⟨⟨p0, p1⟩, q0, q1, q2⟩ := (HW6.out).cells
     by_cases hz : u.f2.length = 0
     ·have hzz : ¬ (u.f2.length : Int) > 0 := by omega
      have HWR := mk0 (show wrapT u (trmS (hdS sy fs) u) = trmS (hdS sy fs) u from if_pos hz)
      have HWI := mk0 (IH.out u (HJ.out).1 (HD.out).2.1 HTJ.out A9 c9 (acc1 ++ [32]) w6 HC9.out HL9.out (HW6.out).ws.hb0 (HW6.out).ws.bb (HW6.out).ws.lt (by have := (HJ.out).2; rw [l7_, l10_]; omega))
      clear hz
      go_wp2_with fail
      refine (HWI.out).mono ?_
      rintro E w7 ⟨rfl, hw⟩
      have HW7 := mk0 ((HW6.out).write H0.out hw)
      have HX7 := mk0 (hw.2.2.keep _ _ _ HNB.out (by decide) HX6.out)
      clear hw HW6 HX6 m0 m1 m2 p0 p1 q0 q1 q2 HWI
      obtain ⟨m0, m1, m2⟩ := HKX.out _ HX7.out
      go_wp2
      go_roundg (l.length - (j + 1))
      case measure => omega
      case rel => exact ⟨j + 1, by omega, by omega, by first | rfl | (rw [wrap_succ (by omega) (by have := HLEN.out; omega)]; rfl), ⟨by rw [HS.out, HWR.out, show acc1 ++ 32 :: trmS (hdS sy fs) u = acc1 ++ [32] ++ trmS (hdS sy fs) u by simp]; exact HW7.out⟩⟩
     ·have hzz : (u.f2.length : Int) > 0 := by omega
      have HWR := mk0 (show wrapT u (trmS (hdS sy fs) u) = 40 :: (trmS (hdS sy fs) u ++ [41]) from if_neg hz)
      have HW40 := mk0 (wb40 b (acc1 ++ [32]) w6 (HW6.out).ws.bb (by have := (HJ.out).2; rw [l7_, l10_]; omega) (Nat.le_of_lt (HW6.out).ws.lt))
      clear hz
      go_wp2_with fail
      refine (HW40.out).mono ?_
      rintro E w61 ⟨rfl, hw⟩
      have HW61 := mk0 ((HW6.out).write H0.out hw)
      have HX61 := mk0 (hw.2.2.keep _ _ _ HNB.out (by decide) HX6.out)
      clear hw HW6 HX6 m0 m1 m2 p0 p1 q0 q1 q2 HW40
      obtain ⟨m0, m1, m2⟩ := HKX.out _ HX61.out
      obtain ⟨⟨p0, p1⟩, q0, q1, q2⟩ := (HW61.out).cells
      have HWI := mk0 (IH.out u (HJ.out).1 (HD.out).2.1 HTJ.out A9 c9 (acc1 ++ [32] ++ [40]) w61 HC9.out HL9.out (HW61.out).ws.hb0 (HW61.out).ws.bb (HW61.out).ws.lt (by have := (HJ.out).2; rw [l7_, l7_]; simp only [l8_, List.length_nil]; omega))
      go_wp2_with fail
      refine (HWI.out).mono ?_
      rintro E w7 ⟨rfl, hw⟩
      have HW7 := mk0 ((HW61.out).write H0.out hw)
      have HX7 := mk0 (hw.2.2.keep _ _ _ HNB.out (by decide) HX61.out)
      clear hw HW61 HX61 m0 m1 m2 p0 p1 q0 q1 q2 HWI
      obtain ⟨m0, m1, m2⟩ := HKX.out _ HX7.out
      have HW41 := mk0 (wb41 b (acc1 ++ [32] ++ [40] ++ trmS (hdS sy fs) u) w7 (HW7.out).ws.bb (by have := (HJ.out).2; rw [l7_, l7_, l7_]; simp only [l8_, List.length_nil]; omega) (Nat.le_of_lt (HW7.out).ws.lt))
      go_wp2_with fail
      refine (HW41.out).mono ?_
      rintro E w8 ⟨rfl, hw⟩
      have HW8 := mk0 ((HW7.out).write H0.out hw)
      clear hw HW7 HX7 m0 m1 m2 HW41
      go_wp2
      go_roundg (l.length - (j + 1))
      case measure => omega
      case rel => exact ⟨j + 1, by omega, by omega, by first | rfl | (rw [wrap_succ (by omega) (by have := HLEN.out; omega)]; rfl), ⟨by rw [HS.out, HWR.out, show acc1 ++ 32 :: 40 :: (trmS (hdS sy fs) u ++ [41]) = acc1 ++ [32] ++ [40] ++ trmS (hdS sy fs) u ++ [41] by simp]; exact HW8.out⟩⟩
    ·have hltz : ¬ (j : Int) < (l.length : Int) := by omega
     have hje : j = l.length := by omega
     subst hje
     rw [List.take_length] at HW
     go_wp2
     go_end0
     exact ⟨rfl, by rw [HG.out]; exact (HW.out).ws.wr⟩
  ·have hk2 : k = 2 := by have := (HIN.out).1; omega
   have hn : 0 ≤ n ∧ n < (sy.length : Int) := by have := (HIN.out).1; omega
   obtain ⟨ad, e, hx0, hx1⟩ := at_T71 (H1.out) n hn.1 hn.2
   subst e
   replace hx0 := ((HW.out).ws.hb0.cell (l1_ w0 _ hx0)).trans hx0
   have HHD := mk0 (show hdS sy fs k n = 35 :: (rd_T71 sy n).f0.data.toList from by unfold hdS; rw [if_neg hk0, if_neg hk1])
   have hsz : (rd_T71 sy n).f0.size ≤ 26 := by have := HHL.out; rw [HHD.out, l8_] at this; rw [Lib.size_eq]; omega
   have HWS := mk0 (fun (s : ByteArray) (hs : s.data.toList = 35 :: (rd_T71 sy n).f0.data.toList) => ws_calls b acc s _ W1 (HW.out).ws.bb hs (by have := HD.out; have := HHL.out; rw [← HHD.out]; omega) (Nat.le_of_lt (HW.out).ws.lt))
   have hn1 := hn.1
   have hn2 := hn.2
   subst hk2
   clear hx1 hn hk0 hk1
   go_wp2_with fail
   refine ((HWS.out) _ ?_).mono ?_
   ·first | rfl | simp
   rintro E w2 ⟨rfl, hw⟩
   rw [← HHD.out] at hw
   have HW2 := mk0 ((HW.out).write H0.out hw)
   clear hw HWS HW hx0 hn1 hn2 hsz p0 p1 q0 q1 q2
   obtain ⟨⟨p0, p1⟩, q0, q1, q2⟩ := (HW2.out).cells
   go_wp2
   have HA2 := mk0 (show (acc ++ hdS sy fs 2 n).length ≤ acc.length + 27 from by have := HHL.out; rw [l7_]; omega)
   generalize acc ++ hdS sy fs 2 n = acc2 at *
   clear p0 p1 q0 q1 q2
   go_loopg [42] l.length (fun gg v42 wi => ∃ (j : Nat), j ≤ l.length ∧ l.length - j ≤ gg ∧ v42 = .int .i64 j ∧ Aside0 (TW w0 W b (acc2 ++ trmSL (hdS sy fs) (l.take j)) W.heap.size (.slice (some ad) sy.length c1) (.slice A2 fs.length c2) (W.heap.size + 1) (.int .i64 2) (.int .i64 n) (.slice A l.length c) wi))
   case atStart => exact ⟨0, by omega, by omega, rfl, ⟨by rw [List.take_zero, trmSL, List.append_nil]; exact HW2.out⟩⟩
   case round =>
    clear HW2
    obtain ⟨j, hj, hgg, rfl, HW⟩ := hrel
    by_cases hlt : j < l.length
    ·have hltz : (j : Int) < (l.length : Int) := by omega
     obtain ⟨ad, A9, c9, e, hx0, hx1, hx2, hl9, hC9⟩ := at_T50 HC.out (j : Int) (by omega) hltz
     subst e
     rw [rdT_at hlt] at hx0 hx1 hx2 hl9 hC9
     rw [l14_] at hx0 hx1 hx2
     replace hx0 := ((HW.out).ws.hb0.cell (l1_ w0 _ hx0)).trans hx0
     replace hx1 := ((HW.out).ws.hb0.cell (l1_ w0 _ hx1)).trans hx1
     replace hx2 := ((HW.out).ws.hb0.cell (l1_ w0 _ hx2)).trans hx2
     have HS := mk0 (show acc2 ++ trmSL (hdS sy fs) (l.take (j + 1)) = (acc2 ++ trmSL (hdS sy fs) (l.take j)) ++ (32 :: wrapT l[j] (trmS (hdS sy fs) l[j])) by rw [takeS hlt, trmSL_snoc, List.append_assoc])
     have HJ := mk0 (show tN l[j] ≤ N ∧ (acc2 ++ trmSL (hdS sy fs) (l.take j)).length + 30 * tN l[j] + 3 ≤ 1000000000000 ∧ (trmS (hdS sy fs) l[j]).length + 3 ≤ 30 * tN l[j] from by
      have h1 := tN_mem (l11_ hlt)
      have h2 := HTL.out j
      have h3 := tNL_snoc (l.take j) l[j]
      rw [← takeS hlt] at h3
      have h4 := tNL_take l (j + 1)
      have := HD.out
      have := HA2.out
      have h5 := HTLL.out _ (l11_ hlt)
      rw [l7_]
      omega)
     have HTJ := mk0 (HTI.out _ (l11_ hlt))
     generalize l[j] = u at *
     generalize acc2 ++ trmSL (hdS sy fs) (l.take j) = acc1 at *
     have HC9 := mk0 hC9
     have HL9 := mk0 hl9
     clear hC9 hl9
     go_upto_region 10 with (fail)
     have HW5 := mk0 ((HW.out).below (aA_ (Below.refl wr.heap.size wr) (.cells #[.int .i64 u.f0, .int .i64 u.f1, .slice A9 u.f2.length c9] 50)))
     have HX5 := mk0 (aS_ wr (.cells #[.int .i64 u.f0, .int .i64 u.f1, .slice A9 u.f2.length c9] 50))
     have HNB := mk0 (show wr.heap.size ≠ b from by have := (HW.out).ws.lt; omega)
     clear HW hx0 hx1 hx2
     generalize (wr.alloc (.cells #[.int .i64 u.f0, .int .i64 u.f1, .slice A9 u.f2.length c9] 50)) = w5 at *
     generalize wr.heap.size = b7 at *
     have HKX := mk0 (fun (W3 : World) (h : W3.heap[b7]? = some (.cells #[.int .i64 u.f0, .int .i64 u.f1, .slice A9 u.f2.length c9] 50 (0, 0))) => (show W3.cell? ⟨b7, 0, none⟩ = some (.int .i64 u.f0) ∧ W3.cell? ⟨b7, 1, none⟩ = some (.int .i64 u.f1) ∧ W3.cell? ⟨b7, 2, none⟩ = some (.slice A9 u.f2.length c9) from ⟨(aC_ h 0).trans rfl, (aC_ h 1).trans rfl, (aC_ h 2).trans rfl⟩))
     have HW32 := mk0 (wb32 b acc1 w5 (HW5.out).ws.bb (by have := (HJ.out).2; omega) (Nat.le_of_lt (HW5.out).ws.lt))
     go_wp2_with fail
     refine (HW32.out).mono ?_
     rintro E w6 ⟨rfl, hw⟩
     have HW6 := mk0 ((HW5.out).write H0.out hw)
     have HX6 := mk0 (hw.2.2.keep _ _ _ HNB.out (by decide) HX5.out)
     clear hw HW5 HX5 HW32
     obtain ⟨m0, m1, m2⟩ := HKX.out _ HX6.out
     obtain ⟨⟨p0, p1⟩, q0, q1, q2⟩ := (HW6.out).cells
     by_cases hz : u.f2.length = 0
     ·have hzz : ¬ (u.f2.length : Int) > 0 := by omega
      have HWR := mk0 (show wrapT u (trmS (hdS sy fs) u) = trmS (hdS sy fs) u from if_pos hz)
      have HWI := mk0 (IH.out u (HJ.out).1 (HD.out).2.1 HTJ.out A9 c9 (acc1 ++ [32]) w6 HC9.out HL9.out (HW6.out).ws.hb0 (HW6.out).ws.bb (HW6.out).ws.lt (by have := (HJ.out).2; rw [l7_, l10_]; omega))
      clear hz
      go_wp2_with fail
      refine (HWI.out).mono ?_
      rintro E w7 ⟨rfl, hw⟩
      have HW7 := mk0 ((HW6.out).write H0.out hw)
      have HX7 := mk0 (hw.2.2.keep _ _ _ HNB.out (by decide) HX6.out)
      clear hw HW6 HX6 m0 m1 m2 p0 p1 q0 q1 q2 HWI
      obtain ⟨m0, m1, m2⟩ := HKX.out _ HX7.out
      go_wp2
      go_roundg (l.length - (j + 1))
      case measure => omega
      case rel => exact ⟨j + 1, by omega, by omega, by first | rfl | (rw [wrap_succ (by omega) (by have := HLEN.out; omega)]; rfl), ⟨by rw [HS.out, HWR.out, show acc1 ++ 32 :: trmS (hdS sy fs) u = acc1 ++ [32] ++ trmS (hdS sy fs) u by simp]; exact HW7.out⟩⟩
     ·have hzz : (u.f2.length : Int) > 0 := by omega
      have HWR := mk0 (show wrapT u (trmS (hdS sy fs) u) = 40 :: (trmS (hdS sy fs) u ++ [41]) from if_neg hz)
      have HW40 := mk0 (wb40 b (acc1 ++ [32]) w6 (HW6.out).ws.bb (by have := (HJ.out).2; rw [l7_, l10_]; omega) (Nat.le_of_lt (HW6.out).ws.lt))
      clear hz
      go_wp2_with fail
      refine (HW40.out).mono ?_
      rintro E w61 ⟨rfl, hw⟩
      have HW61 := mk0 ((HW6.out).write H0.out hw)
      have HX61 := mk0 (hw.2.2.keep _ _ _ HNB.out (by decide) HX6.out)
      clear hw HW6 HX6 m0 m1 m2 p0 p1 q0 q1 q2 HW40
      obtain ⟨m0, m1, m2⟩ := HKX.out _ HX61.out
      obtain ⟨⟨p0, p1⟩, q0, q1, q2⟩ := (HW61.out).cells
      have HWI := mk0 (IH.out u (HJ.out).1 (HD.out).2.1 HTJ.out A9 c9 (acc1 ++ [32] ++ [40]) w61 HC9.out HL9.out (HW61.out).ws.hb0 (HW61.out).ws.bb (HW61.out).ws.lt (by have := (HJ.out).2; rw [l7_, l7_]; simp only [l8_, List.length_nil]; omega))
      go_wp2_with fail
      refine (HWI.out).mono ?_
      rintro E w7 ⟨rfl, hw⟩
      have HW7 := mk0 ((HW61.out).write H0.out hw)
      have HX7 := mk0 (hw.2.2.keep _ _ _ HNB.out (by decide) HX61.out)
      clear hw HW61 HX61 m0 m1 m2 p0 p1 q0 q1 q2 HWI
      obtain ⟨m0, m1, m2⟩ := HKX.out _ HX7.out
      have HW41 := mk0 (wb41 b (acc1 ++ [32] ++ [40] ++ trmS (hdS sy fs) u) w7 (HW7.out).ws.bb (by have := (HJ.out).2; rw [l7_, l7_, l7_]; simp only [l8_, List.length_nil]; omega) (Nat.le_of_lt (HW7.out).ws.lt))
      go_wp2_with fail
      refine (HW41.out).mono ?_
      rintro E w8 ⟨rfl, hw⟩
      have HW8 := mk0 ((HW7.out).write H0.out hw)
      clear hw HW7 HX7 m0 m1 m2 HW41
      go_wp2
      go_roundg (l.length - (j + 1))
      case measure => omega
      case rel => exact ⟨j + 1, by omega, by omega, by first | rfl | (rw [wrap_succ (by omega) (by have := HLEN.out; omega)]; rfl), ⟨by rw [HS.out, HWR.out, show acc1 ++ 32 :: 40 :: (trmS (hdS sy fs) u ++ [41]) = acc1 ++ [32] ++ [40] ++ trmS (hdS sy fs) u ++ [41] by simp]; exact HW8.out⟩⟩
    ·have hltz : ¬ (j : Int) < (l.length : Int) := by omega
     have hje : j = l.length := by omega
     subst hje
     rw [List.take_length] at HW
     go_wp2
     go_end0
     exact ⟨rfl, by rw [HG.out]; exact (HW.out).ws.wr⟩
theorem info186 : (Tryz.prog.info? 186).map (fun i => (i.zero, i.size)) = some (some (.agg (Array.replicate 256 (.bool false))), 256) := by kernel_rfl
theorem ia_calls (s : ByteArray) (w : World) (hs : s.size ≤ 70000) :
  Calls Tryz.prog 166 #[.string s, .string ⟨#[32, 40, 41]⟩] w fun E w' => E = .returned (.int .i64 (Lib.indexAny s.data.toList [32, 40, 41])) ∧ Below w.heap.size w w' := by
 by_cases h8 : s.size ≤ 8
 ·exact iashort_calls s w h8
 ·refine (Tryz.strings_IndexAny_long (zero_of_info info186).1 s ⟨#[32, 40, 41]⟩ w (by decide) (by omega) (by omega) (by decide) (ascii_of_all (by decide))).mono ?_
  rintro E w' ⟨rfl, rfl⟩
  exact ⟨rfl, aA_ (aA_ (Below.refl _ _) _) _⟩
def wordN (l : List UInt8) : Nat := if Lib.indexAny l [32, 40, 41] < 0 then l.length else (Lib.indexAny l [32, 40, 41]).toNat
theorem indexAny_lt (l chars : List UInt8) : Lib.indexAny l chars ≤ l.length := by
 induction l with
 | nil => simp [Lib.indexAny]
 | cons a r ih =>
  unfold Lib.indexAny
  split
  ·simp; omega
  ·split
   ·simp; omega
   ·simp; omega
theorem wordN_le (l : List UInt8) : wordN l ≤ l.length := by
 unfold wordN
 have := indexAny_lt l [32, 40, 41]
 split <;> omega
structure RT (b : Nat) (l : List UInt8) (m1 m2 : Value) (W : World) : Prop where
 blk : W.heap[b]? = some (.cells #[.string ⟨l.toArray⟩, m1, m2] 92 (0, 0))
theorem RT.keep {b : Nat} {l : List UInt8} {m1 m2 : Value} {W W1 : World} (h : RT b l m1 m2 W) (hb : Below W.heap.size W W1) : RT b l m1 m2 W1 := ⟨aJ_ h.blk hb⟩
theorem RT.cells {b : Nat} {l : List UInt8} {m1 m2 : Value} {W : World} (h : RT b l m1 m2 W) : (W.cell? ⟨b, 0, none⟩ = some (.string ⟨l.toArray⟩) ∧ W.frozen? ⟨b, 0, none⟩ = false) ∧ W.cell? ⟨b, 1, none⟩ = some m1 ∧ W.cell? ⟨b, 2, none⟩ = some m2 :=
 ⟨⟨(aC_ h.blk 0).trans rfl, aF_ h.blk 0⟩, (aC_ h.blk 1).trans rfl, (aC_ h.blk 2).trans rfl⟩
theorem RT.set {b : Nat} {l : List UInt8} {m1 m2 : Value} {W : World} (h : RT b l m1 m2 W) (s : ByteArray) : RT b s.data.toList m1 m2 (W.setCell ⟨b, 0, none⟩ (.string s)) := by
 refine ⟨(blk_set h.blk 0 (.string s)).trans ?_⟩
 rfl
theorem KR.set {b : Nat} {W W1 : World} (h : KR b W W1) (i : Nat) (u : Value) : KR b W (W1.setCell ⟨b, i, none⟩ u) := ⟨h.lo.setCell (p := ⟨b, i, none⟩) (Nat.le_refl _) _, h.keep.set_ i u⟩
set_option maxHeartbeats 4000000 in
set_option maxRecDepth 100000 in
theorem word_calls (b : Nat) (l : List UInt8) (m1 m2 : Value) (W : World) (h : RT b l m1 m2 W) (hs : l.length ≤ 70000) :
  Calls Tryz.prog 131 #[.pointer (some ⟨b, 0, none⟩)] W fun E w' => E = .returned (.string ⟨(l.take (wordN l)).toArray⟩) ∧ RT b (l.drop (wordN l)) m1 m2 w' ∧ KR b W w' := by
 have hlt := blk_lt h.blk
 have HLT := mk0 (Nat.le_of_lt hlt)
 have HI := mk0 (fun (W1 : World) => ia_calls ⟨l.toArray⟩ W1 (by show l.toArray.size ≤ 70000; rw [List.size_toArray]; exact hs))
 obtain ⟨s, hsx⟩ : ∃ s : ByteArray, s = ⟨l.toArray⟩ := ⟨_, rfl⟩
 have HSD := mk0 (show s.data.toList = l by rw [hsx])
 have HSS := mk0 (show s.size = l.length by rw [Lib.size_eq, hsx])
 have HR := mk0 h
 have hc := h.cells
 rw [← hsx] at HI hc
 have HR0 := mk0 h.blk
 rw [← hsx] at HR0
 have HN := mk0 (wordN_le l)
 have HNI := mk0 (show (wordN l : Int) = (if Lib.indexAny l [32, 40, 41] < 0 then (s.size : Int) else Lib.indexAny l [32, 40, 41]) by
  unfold wordN
  have := indexAny_lt l [32, 40, 41]
  rw [HSS.out]
  split <;> omega)
 obtain ⟨⟨c0, f0⟩, c1, c2⟩ := hc
 rw [HSD.out] at HI
 have HX := mk0 (fun (W1 : World) (hW : Below W.heap.size W W1) => And.intro (aT_ hW c0) ((aF_ (aJ_ HR0.out hW) 0) : W1.frozen? ⟨b, 0, none⟩ = false))
 clear h hs hsx f0 c1 c2
 go_enter Tryz.func131, Tryz.ntmps131
 go_wp2_with fail
 refine (HI.out _).mono ?_
 rintro E w2 ⟨rfl, hb⟩
 have HB2 := mk0 hb
 have HR2 := mk0 ((HR.out).keep hb)
 have HK2 := mk0 (KR.below HLT.out hb)
 clear c0
 obtain ⟨c0, f0⟩ := HX.out _ hb
 clear hb HI
 generalize Lib.indexAny l [32, 40, 41] = ix at *
 by_cases q : ix < 0
 ·have e1 := HNI.out
  rw [if_pos q] at e1
  have e2 : wordN l = s.size := by omega
  have HE := mk0 e2
  clear HX e1 e2
  go_wp2
  go_ret
  have e3 : wordN l = l.length := by rw [HE.out, HSS.out]
  rw [e3, List.take_length, List.drop_length]
  exact ⟨congrArg (fun x => Ending.returned (Value.string x)) (ba_eq HSD.out), (HR2.out).set ByteArray.empty, (HK2.out).set 0 _⟩
 ·have e1 := HNI.out
  rw [if_neg q] at e1
  have hnx : wordN l ≤ s.size := by have := HN.out; have := HSS.out; omega
  subst e1
  clear HX
  go_wp2
  go_ret
  have h1 : (s.extract 0 (wordN l)).data.toList = l.take (wordN l) := by rw [Lib.extract_from_zero, HSD.out]
  have h2 : (s.extract (wordN l) s.size).data.toList = l.drop (wordN l) := by rw [Lib.extract_to_end, HSD.out]
  have h3 := (HR2.out).set (s.extract (wordN l) s.size)
  rw [h2] at h3
  exact ⟨congrArg (fun x => Ending.returned (Value.string x)) (ba_eq h1), h3, (HK2.out).set 0 _⟩
def digs : List UInt8 := [48, 49, 50, 51, 52, 53, 54, 55, 56, 57]
def numBad (l : List UInt8) : Bool := decide (l = []) || decide (10 < l.length) || (decide (l.head? = some 48) && decide (1 < l.length)) || !decide (Lib.trimS l digs = [])
def numV (l : List UInt8) : Int := (Lib.atoi l).getD 0
def numOk (l : List UInt8) : Bool := !numBad l && decide (numV l ≤ 1000000000)
theorem dropWhile_nil {α : Type} {p : α → Bool} {l : List α} (h : l.dropWhile p = []) : ∀ x ∈ l, p x = true := by
 induction l with
 | nil => intro x hx; cases hx
 | cons a r ih =>
  rw [List.dropWhile_cons] at h
  by_cases ha : p a = true
  ·rw [if_pos ha] at h
   intro x hx
   rcases List.mem_cons.1 hx with rfl | hx
   ·exact ha
   ·exact ih h x hx
  ·rw [if_neg ha] at h; cases h
theorem mem_tw {α : Type} {p : α → Bool} {l : List α} {x : α} (h : x ∈ l.takeWhile p) : p x = true := by
 induction l with
 | nil => cases h
 | cons a r ih =>
  rw [List.takeWhile_cons] at h
  by_cases ha : p a = true
  ·rw [if_pos ha] at h
   rcases List.mem_cons.1 h with rfl | h
   ·exact ha
   ·exact ih h
  ·rw [if_neg ha] at h; cases h
theorem trimS_nil {l cs : List UInt8} (h : Lib.trimS l cs = []) : ∀ x ∈ l, cs.contains x = true := by
 unfold Lib.trimS Lib.trimLeftS Lib.trimRightS at h
 have h1 := dropWhile_nil h
 intro x hx
 have hx2 : x ∈ l.reverse := List.mem_reverse.2 hx
 rw [← List.takeWhile_append_dropWhile (p := (cs.contains ·)) (l := l.reverse)] at hx2
 rcases List.mem_append.1 hx2 with hx3 | hx3
 ·exact mem_tw hx3
 ·exact h1 x (List.mem_reverse.2 hx3)
theorem digit_val {x : UInt8} (h : digs.contains x = true) : ∃ d, d ≤ 9 ∧ Lib.digitVal x = some d ∧ x ≠ 45 ∧ x ≠ 43 := by
 unfold digs at h
 simp only [List.contains_cons, List.contains_nil, Bool.or_false, Bool.or_eq_true, beq_iff_eq] at h
 rcases h with rfl | rfl | rfl | rfl | rfl | rfl | rfl | rfl | rfl | rfl <;> exact ⟨_, by decide, rfl, by decide, by decide⟩
theorem dec_some {l : List UInt8} (h : ∀ x ∈ l, digs.contains x = true) : ∀ acc, ∃ n, Lib.decFrom acc l = some n := by
 induction l with
 | nil => intro acc; exact ⟨acc, rfl⟩
 | cons a r ih =>
  intro acc
  obtain ⟨d, _, hd, _⟩ := digit_val (h a (l19_ ..))
  obtain ⟨n, hn⟩ := ih (fun x hx => h x (l20_ _ hx)) (acc * 10 + d)
  exact ⟨n, by rw [Lib.decFrom, hd]; exact hn⟩
theorem atoi_some {l : List UInt8} (h : numBad l = false) : ∃ n : Nat, Lib.atoi l = some (n : Int) := by
 unfold numBad at h
 simp only [Bool.or_eq_false_iff, decide_eq_false_iff_not, Bool.not_eq_false', l22_] at h
 obtain ⟨⟨⟨h1, _⟩, _⟩, h4⟩ := h
 have hall := trimS_nil h4
 cases l with
 | nil => exact absurd rfl h1
 | cons a r =>
  obtain ⟨d, _, hd, h45, h43⟩ := digit_val (hall a (l19_ ..))
  obtain ⟨n, hn⟩ := dec_some hall 0
  refine ⟨n, ?_⟩
  rw [Lib.atoi, if_neg (by simpa using h45), if_neg (by simpa using h43)]
  unfold Lib.decNat
  rw [if_neg (by simp), hn]
  rfl
theorem numV_eq {l : List UInt8} {n : Nat} (h : Lib.atoi l = some (n : Int)) : numV l = n := by unfold numV; rw [h]; rfl
def num0V (l : List UInt8) : Int := if numBad l then 0 else numV l
theorem num_bad {l : List UInt8} (h : numBad l = true) : num0V l = 0 ∧ numOk l = false := by unfold num0V numOk; rw [h]; exact ⟨rfl, rfl⟩
theorem num_good {l : List UInt8} (h : numBad l = false) : num0V l = numV l ∧ numOk l = decide (num0V l ≤ 1000000000) := by unfold num0V numOk; rw [h]; exact ⟨rfl, rfl⟩
theorem head_at {s : ByteArray} (h : 0 < s.size) : s.data.toList.head? = some s[0] := by
 rcases s with ⟨⟨l⟩⟩
 cases l with
 | nil => exact absurd h (by decide)
 | cons a r => rfl
set_option maxHeartbeats 4000000 in
theorem number0_calls (s : ByteArray) (w : World) (hs : s.size ≤ 70000) :
  Calls Tryz.prog 100 #[.string s] w fun E w' => E = .returned (.tuple #[.int .i64 (num0V s.data.toList), .bool (numOk s.data.toList)]) ∧ Below w.heap.size w w' := by
 have HT := mk0 (Tryz.trim_digits s w (by omega))
 have HA := mk0 fun (h : numBad s.data.toList = false) W => by
  obtain ⟨n, hn⟩ := atoi_some h
  have h10 : s.size ≤ 18 := by
   unfold numBad at h
   simp only [Bool.or_eq_false_iff, decide_eq_false_iff_not] at h
   have := h.1.1.2
   have e : s.data.toList.length = s.size := (Lib.size_eq s).symm
   omega
  exact (show Calls Tryz.prog 128 #[.string s] W fun e w' => e = .returned (.tuple #[.int .i64 (numV s.data.toList), .nilIface]) ∧ Below W.heap.size W w' from (Tryz.strconv_Atoi s n h10 hn W).mono fun e w' ⟨he, t, ht⟩ => ⟨by rw [numV_eq hn]; exact he, by rw [ht]; exact Lib.bytesWorld_below _ _ _⟩)
 have HE := mk0 (Lib.toList_data s)
 have HZ := mk0 (Lib.size_eq s)
 go_enter Tryz.func100, Tryz.ntmps100
 cases q1 : s.toList.isEmpty with
 | true =>
  have hb : numBad s.data.toList = true := by
   have : s.data.toList = [] := by rw [← HE.out]; simpa using q1
   unfold numBad; rw [l2_ this]; rfl
  have HV := mk0 (num_bad hb)
  clear hb
  go_wp2
  go_ret2
  exact ⟨by rw [(HV.out).1, (HV.out).2]; rfl, Below.refl _ _⟩
 | false =>
 cases q2 : decide ((s.size : Int) > 10) with
 | true =>
  have hb : numBad s.data.toList = true := by
   have := l0_ q2
   unfold numBad; rw [l2_ (show 10 < s.data.toList.length by rw [← HZ.out]; omega)]; simp
  have HV := mk0 (num_bad hb)
  clear hb
  go_wp2
  go_ret2
  exact ⟨by rw [(HV.out).1, (HV.out).2]; rfl, Below.refl _ _⟩
 | false =>
 have h0 : 0 < s.size := by
  rw [HZ.out]
  cases e : s.data.toList with
  | nil => rw [← HE.out] at e; rw [e] at q1; cases q1
  | cons a r => simp
 have HH := mk0 (head_at h0)
 go_wp2_with fail
 ·have HN48 := mk0 (show (decide (s.data.toList.head? = some 48) && decide (1 < s.data.toList.length)) = false from by rw [HZ.out] at *; rw [l3_ (show ¬ 1 < s.data.toList.length by omega)]; simp)
  refine (HT.out).mono ?_
  rintro E w2 ⟨rfl, hb⟩
  have HB := mk0 hb
  have HTR := mk0 (show Lib.trimS s.data.toList digs = [] ↔ (⟨(Lib.trimS s.data.toList [48, 49, 50, 51, 52, 53, 54, 55, 56, 57]).toArray⟩ : ByteArray).toList.isEmpty = true by rw [Lib.toList_data]; simp [digs])
  clear hb
  generalize (⟨(Lib.trimS s.data.toList [48, 49, 50, 51, 52, 53, 54, 55, 56, 57]).toArray⟩ : ByteArray) = tr at *
  cases q5 : tr.toList.isEmpty with
  | false =>
   have hb : numBad s.data.toList = true := by
    have h1 : ¬ Lib.trimS s.data.toList digs = [] := fun h => by rw [(HTR.out).1 h] at q5; cases q5
    unfold numBad; rw [l3_ h1]; simp
   have HV := mk0 (num_bad hb)
   clear hb
   go_wp2
   go_ret2
   exact ⟨by rw [(HV.out).1, (HV.out).2]; rfl, HB.out⟩
  | true =>
   have hb : numBad s.data.toList = false := by
    unfold numBad
    rw [l2_ ((HTR.out).2 q5), HN48.out, l3_ (show ¬ s.data.toList = [] from fun h => by rw [← HE.out] at h; rw [h] at q1; cases q1), l3_ (show ¬ 10 < s.data.toList.length from by have := of_decide_eq_false q2; rw [← HZ.out]; omega)]
    rfl
   have HV := mk0 (num_good hb)
   have HA2 := mk0 (HA.out hb)
   clear hb
   go_wp2_with fail
   refine (HA2.out _).mono ?_
   rintro E w3 ⟨rfl, hb⟩
   have HB3 := mk0 (aL_ HB.out (HB.out).size hb)
   clear hb
   rw [← (HV.out).1]
   cases q6 : decide (num0V s.data.toList ≤ 1000000000) with
   | false =>
    go_wp2
    go_ret2
    exact ⟨by rw [(HV.out).2, q6]; rfl, HB3.out⟩
   | true =>
    go_wp2
    go_ret2
    exact ⟨by rw [(HV.out).2, q6]; rfl, HB3.out⟩
 ·have hb : numBad s.data.toList = true := by
   have h48 : s[0].toNat = 48 := by omega
   have e : s[0] = 48 := UInt8.toNat_inj.1 h48
   unfold numBad; rw [HH.out, e, l2_ (show 1 < s.data.toList.length by rw [← HZ.out]; omega)]; simp
  have HV := mk0 (num_bad hb)
  clear hb
  go_wp2
  go_ret2
  exact ⟨by rw [(HV.out).1, (HV.out).2]; rfl, Below.refl _ _⟩
 ·have HN48 := mk0 (show (decide (s.data.toList.head? = some 48) && decide (1 < s.data.toList.length)) = false from by rw [HH.out]; have h1 : ¬ s[0] = 48 := fun e => absurd (show ((s[0].toNat : Nat) : Int) = 48 by rw [e]; rfl) (by assumption); simp [h1])
  refine (HT.out).mono ?_
  rintro E w2 ⟨rfl, hb⟩
  have HB := mk0 hb
  have HTR := mk0 (show Lib.trimS s.data.toList digs = [] ↔ (⟨(Lib.trimS s.data.toList [48, 49, 50, 51, 52, 53, 54, 55, 56, 57]).toArray⟩ : ByteArray).toList.isEmpty = true by rw [Lib.toList_data]; simp [digs])
  clear hb
  generalize (⟨(Lib.trimS s.data.toList [48, 49, 50, 51, 52, 53, 54, 55, 56, 57]).toArray⟩ : ByteArray) = tr at *
  cases q5 : tr.toList.isEmpty with
  | false =>
   have hb : numBad s.data.toList = true := by
    have h1 : ¬ Lib.trimS s.data.toList digs = [] := fun h => by rw [(HTR.out).1 h] at q5; cases q5
    unfold numBad; rw [l3_ h1]; simp
   have HV := mk0 (num_bad hb)
   clear hb
   go_wp2
   go_ret2
   exact ⟨by rw [(HV.out).1, (HV.out).2]; rfl, HB.out⟩
  | true =>
   have hb : numBad s.data.toList = false := by
    unfold numBad
    rw [l2_ ((HTR.out).2 q5), HN48.out, l3_ (show ¬ s.data.toList = [] from fun h => by rw [← HE.out] at h; rw [h] at q1; cases q1), l3_ (show ¬ 10 < s.data.toList.length from by have := of_decide_eq_false q2; rw [← HZ.out]; omega)]
    rfl
   have HV := mk0 (num_good hb)
   have HA2 := mk0 (HA.out hb)
   clear hb
   go_wp2_with fail
   refine (HA2.out _).mono ?_
   rintro E w3 ⟨rfl, hb⟩
   have HB3 := mk0 (aL_ HB.out (HB.out).size hb)
   clear hb
   rw [← (HV.out).1]
   cases q6 : decide (num0V s.data.toList ≤ 1000000000) with
   | false =>
    go_wp2
    go_ret2
    exact ⟨by rw [(HV.out).2, q6]; rfl, HB3.out⟩
   | true =>
    go_wp2
    go_ret2
    exact ⟨by rw [(HV.out).2, q6]; rfl, HB3.out⟩
def ki (n : Int) : Value := .int .i64 n
def pwrong : Ending := .panicked [{ v := .iface 85 (.agg #[]), recovered := false }]
abbrev Ents := List (ByteArray × Int)
structure RM (b : Nat) (l : List UInt8) (B1 B2 : Nat) (e1 e2 : Ents) (W : World) : Prop where
 rt : RT b l (.map (some B1)) (.map (some B2)) W
 i1 : MapIs W B1 Value.string ki sdom e1
 i2 : MapIs W B2 Value.string ki sdom e2
 n1 : B1 ≠ b
 n2 : B2 ≠ b
section
variable {b B1 B2 : Nat} {l l2 : List UInt8} {e1 e2 : Ents} {W W1 : World}
theorem RM.call (h : RM b l B1 B2 e1 e2 W) (hr : RT b l2 (.map (some B1)) (.map (some B2)) W1) (hk : KR b W W1) : RM b l2 B1 B2 e1 e2 W1 :=
 ⟨hr, h.i1.kept (hk.keep.2 B1 h.i1.lt h.n1 (by simp)), h.i2.kept (hk.keep.2 B2 h.i2.lt h.n2 (by simp)), h.n1, h.n2⟩
theorem RM.keep (h : RM b l B1 B2 e1 e2 W) (hb : Below W.heap.size W W1) : RM b l B1 B2 e1 e2 W1 := ⟨h.rt.keep hb, h.i1.below hb, h.i2.below hb, h.n1, h.n2⟩
theorem RM.lt (h : RM b l B1 B2 e1 e2 W) : b < W.heap.size := blk_lt h.rt.blk
end
def hdW (e1 e2 : Ents) (w rest : List UInt8) : Option ((Int × Int) × List UInt8) :=
 if Lib.hasPrefix w [36] = true then (if numOk (Lib.trimPrefix w [36]) = true then some ((0, num0V (Lib.trimPrefix w [36])), rest) else none)
 else match mget (⟨(Lib.trimPrefix w [35]).toArray⟩ : ByteArray) (if Lib.hasPrefix w [35] = true then e1 else e2) with
  | none => none
  | some v => if nameB ⟨(Lib.trimPrefix w [35]).toArray⟩ = true then some ((if Lib.hasPrefix w [35] = true then 2 else 1, v), rest) else none
def hdR (e1 e2 : Ents) (l : List UInt8) : Option ((Int × Int) × List UInt8) := hdW e1 e2 (l.take (wordN l)) (l.drop (wordN l))
def HdQ (b : Nat) (l : List UInt8) (B1 B2 : Nat) (e1 e2 : Ents) (W : World) (E : Ending) (w' : World) : Prop :=
 KR b W w' ∧ (hdR e1 e2 l = none ∧ E = pwrong ∨ ∃ k n r, hdR e1 e2 l = some ((k, n), r) ∧ E = .returned (.agg #[.int .i64 k, .int .i64 n, .slice none 0 0]) ∧ RT b r (.map (some B1)) (.map (some B2)) w')
theorem trim_len (l p : List UInt8) : (Lib.trimPrefix l p).length ≤ l.length := by unfold Lib.trimPrefix; split <;> simp
structure FH (b : Nat) (l : List UInt8) (B1 B2 : Nat) (e1 e2 : Ents) (W W1 : World) : Prop where
 rm : RM b l B1 B2 e1 e2 W1
 h2 : W1.heap[W.heap.size]? = some (.cells #[.int .i64 0, .int .i64 0, .slice none 0 0] 50 (0, 0))
 kr : KR b W W1
 lt : b < W.heap.size
section
variable {b B1 B2 : Nat} {l l2 : List UInt8} {e1 e2 : Ents} {W W1 W2 : World}
theorem FH.call (h : FH b l B1 B2 e1 e2 W W1) (hr : RT b l2 (.map (some B1)) (.map (some B2)) W2) (hk : KR b W1 W2) : FH b l2 B1 B2 e1 e2 W W2 :=
 ⟨h.rm.call hr hk, hk.blk (by have := h.lt; omega) h.h2, h.kr.trans hk, h.lt⟩
theorem FH.below (h : FH b l B1 B2 e1 e2 W W1) (hb : Below W1.heap.size W1 W2) : FH b l B1 B2 e1 e2 W W2 :=
 h.call (h.rm.rt.keep hb) (KR.below (Nat.le_of_lt h.rm.lt) hb)
theorem FH.cells (h : FH b l B1 B2 e1 e2 W W1) : (W1.cell? ⟨W.heap.size, 0, none⟩ = some (.int .i64 0) ∧ W1.cell? ⟨W.heap.size, 1, none⟩ = some (.int .i64 0) ∧ W1.cell? ⟨W.heap.size, 2, none⟩ = some (.slice none 0 0)) ∧ W1.frozen? ⟨W.heap.size, 0, none⟩ = false ∧ W1.frozen? ⟨W.heap.size, 1, none⟩ = false ∧ W1.frozen? ⟨W.heap.size, 2, none⟩ = false :=
 ⟨⟨(aC_ h.h2 0).trans rfl, (aC_ h.h2 1).trans rfl, (aC_ h.h2 2).trans rfl⟩, aF_ h.h2 0, aF_ h.h2 1, aF_ h.h2 2⟩
end
theorem KR.far {b g : Nat} {W W1 : World} (h : KR b W W1) (hlt : b < W.heap.size) (hg : W.heap.size ≤ g) (i : Nat) (u : Value) : KR b W (W1.setCell ⟨g, i, none⟩ u) := by
 refine ⟨h.lo.setCell (p := ⟨g, i, none⟩) (by show b ≤ g; omega) _, ?_, ?_⟩
 ·have := h.keep.1
  simpa [World.setCell] using this
 ·intro j hj hne hr
  rw [Below.heap_setCell W1 ⟨g, i, none⟩ _ j (by show j ≠ g; omega)]
  exact h.keep.2 j hj hne hr
theorem RT.far {b g : Nat} {l : List UInt8} {m1 m2 : Value} {W : World} (h : RT b l m1 m2 W) (hg : b ≠ g) (i : Nat) (u : Value) : RT b l m1 m2 (W.setCell ⟨g, i, none⟩ u) := ⟨blk_far h.blk hg _⟩
set_option maxHeartbeats 8000000 in
set_option maxRecDepth 100000 in
theorem rhd_calls (b : Nat) (l : List UInt8) (B1 B2 : Nat) (e1 e2 : Ents) (W : World) (h : RM b l B1 B2 e1 e2 W) (hs : l.length ≤ 70000) :
  Calls Tryz.prog 104 #[.pointer (some ⟨b, 0, none⟩)] W (HdQ b l B1 B2 e1 e2 W) := by
 have hlt := h.lt
 have HLT := mk0 hlt
 have HF := mk0 (FH.mk (h.keep (aA_ (Below.refl W.heap.size W) (.cells #[.int .i64 0, .int .i64 0, .slice none 0 0] 50))) (aS_ W _) (KR.below (Nat.le_of_lt hlt) (aA_ (Below.refl W.heap.size W) (.cells #[.int .i64 0, .int .i64 0, .slice none 0 0] 50))) hlt)
 have HL := mk0 hs
 clear h hs hlt
 go_enter Tryz.func104, Tryz.ntmps104
 go_upto_region 1 with (fail)
 generalize (W.alloc (.cells #[.int .i64 0, .int .i64 0, .slice none 0 0] 50)) = W1 at *
 have HW := mk0 (word_calls b l _ _ W1 (HF.out).rm.rt HL.out)
 go_wp2_with fail
 refine (HW.out).mono ?_
 rintro E w2 ⟨rfl, hr, hk⟩
 have HF2 := mk0 ((HF.out).call hr hk)
 clear hr hk HF HW
 have HDR := mk0 (show hdR e1 e2 l = hdW e1 e2 (l.take (wordN l)) (l.drop (wordN l)) from rfl)
 have HTL := mk0 (show (l.take (wordN l)).length ≤ 70000 by have := HL.out; rw [List.length_take]; omega)
 generalize l.drop (wordN l) = rest at *
 generalize l.take (wordN l) = wd at *
 have HP1 := mk0 (fun (W1 : World) => Tryz.strings_CutPrefix ⟨wd.toArray⟩ ⟨#[36]⟩ W1)
 have HP2 := mk0 (fun (W1 : World) => Tryz.strings_CutPrefix ⟨wd.toArray⟩ ⟨#[35]⟩ W1)
 rw [show (ByteArray.mk wd.toArray).data.toList = wd from rfl, show (ByteArray.mk #[36]).data.toList = [36] from rfl] at HP1
 rw [show (ByteArray.mk wd.toArray).data.toList = wd from rfl, show (ByteArray.mk #[35]).data.toList = [35] from rfl] at HP2
 have HTZ := mk0 (show (ByteArray.mk (Lib.trimPrefix wd [36]).toArray).size ≤ 70000 by
  show (Lib.trimPrefix wd [36]).toArray.size ≤ 70000
  rw [List.size_toArray]; have := trim_len wd [36]; have := HTL.out; omega)
 have HN := mk0 (fun (W1 : World) => number0_calls ⟨(Lib.trimPrefix wd [36]).toArray⟩ W1 HTZ.out)
 rw [show (ByteArray.mk (Lib.trimPrefix wd [36]).toArray).data.toList = Lib.trimPrefix wd [36] from rfl] at HN
 go_wp2_with fail
 refine (HP1.out _).mono ?_
 rintro E w3 ⟨rfl, hw⟩
 subst hw
 cases q1 : Lib.hasPrefix wd [36] with
 | true =>
  have HQ1 := mk0 q1
  clear q1 HP1 HP2
  go_wp2_with fail
  refine (HN.out _).mono ?_
  rintro E w4 ⟨rfl, hb⟩
  have HF4 := mk0 ((HF2.out).below hb)
  clear hb HF2 HN
  cases q2 : numOk (Lib.trimPrefix wd [36]) with
  | true =>
   have HV := mk0 (show hdW e1 e2 wd rest = some ((0, num0V (Lib.trimPrefix wd [36])), rest) by unfold hdW; rw [if_pos HQ1.out, if_pos q2])
   clear q2
   generalize num0V (Lib.trimPrefix wd [36]) = nv at *
   obtain ⟨⟨c0, c1, c2⟩, f0, f1, f2⟩ := (HF4.out).cells
   have HB0 := mk0 (blk_set (blk_set (blk_set (HF4.out).h2 0 (.int .i64 0)) 1 (.int .i64 nv)) 2 (.slice none 0 0))
   have HK0 := mk0 ((((HF4.out).kr.far HLT.out (Nat.le_refl _) 0 (.int .i64 0)).far HLT.out (Nat.le_refl _) 1 (.int .i64 nv)).far HLT.out (Nat.le_refl _) 2 (.slice none 0 0))
   have HR0 := mk0 ((((HF4.out).rm.rt.far (g := W.heap.size) (by have := HLT.out; omega) 0 (.int .i64 0)).far (g := W.heap.size) (by have := HLT.out; omega) 1 (.int .i64 nv)).far (g := W.heap.size) (by have := HLT.out; omega) 2 (.slice none 0 0))
   go_wp2
   refine bodyPost_ret (results_single rfl (.cell W.heap.size 50 #[.int .i64 0, .int .i64 nv, .slice none 0 0] (0, 0) _ rfl HB0.out Tryz.underlying50 rfl (by kernel_rfl) .nil)) rfl ?_
   exact ⟨HK0.out, .inr ⟨0, nv, rest, HDR.out.trans HV.out, rfl, HR0.out⟩⟩
  | false =>
   have HV := mk0 (show hdW e1 e2 wd rest = none by unfold hdW; rw [if_pos HQ1.out, if_neg (by rw [q2]; exact l16_)])
   have HK := mk0 (HF4.out).kr
   clear q2
   go_wp2
   exact ⟨rfl, HK.out, .inl ⟨HDR.out.trans HV.out, rfl⟩⟩
 | false =>
  have HQ1 := mk0 q1
  clear q1 HP1 HN HTZ
  have HTZ := mk0 (show (ByteArray.mk (Lib.trimPrefix wd [35]).toArray).size ≤ 70000 by
   show (Lib.trimPrefix wd [35]).toArray.size ≤ 70000
   rw [List.size_toArray]; have := trim_len wd [35]; have := HTL.out; omega)
  have HK := mk0 (fun (W : World) (hW : Below w3.heap.size w3 W) => And.intro (aT_ hW (HF2.out).rm.rt.cells.2.1) (aT_ hW (HF2.out).rm.rt.cells.2.2))
  have hd := below_drew (Below.refl w3.heap.size w3)
  go_upto_region 8 with (fail)
  go_region_held3 (fun w' => w'.cell? ⟨b, 1, none⟩ = some (.map (some B1)) ∧ w'.cell? ⟨b, 2, none⟩ = some (.map (some B2))) (first | exact HK.out _ hd | fail) (first | fail)
  have HF3 := mk0 ((HF2.out).below hd)
  clear hd HK HF2
  generalize w3.drew = w4 at *
  go_wp2_with fail
  refine (HP2.out _).mono ?_
  rintro E w5 ⟨rfl, hw⟩
  subst hw
  generalize hx : (ByteArray.mk (Lib.trimPrefix wd [35]).toArray) = x at *
  have HX := mk0 hx
  have HDOM := mk0 (show sdom x from by unfold sdom maxLen; have := HTZ.out; omega)
  have HNM := mk0 (fun (W1 : World) => name_calls x W1)
  clear hx HP2
  cases q3 : Lib.hasPrefix wd [35] with
  | false =>
   have HQ3 := mk0 q3
   clear q3
   have hl := MapIs.look (HF3.out).rm.i2 keyStr Tryz.underlying90 (zero3 w5) HDOM.out true
   cases qm : mget x e2 with
   | none =>
    rw [qm] at hl
    simp only [if_true] at hl
    have HV := mk0 (show hdW e1 e2 wd rest = none by unfold hdW; rw [if_neg (by rw [HQ1.out]; exact l16_), HX.out, if_neg (by rw [HQ3.out]; exact l16_), if_neg (by rw [HQ3.out]; exact l16_), qm])
    have HK := mk0 (HF3.out).kr
    clear qm
    go_wp2
    exact ⟨rfl, HK.out, .inl ⟨HDR.out.trans HV.out, rfl⟩⟩
   | some nv =>
    rw [qm] at hl
    simp only [if_true] at hl
    unfold ki at hl
    have HQM := mk0 qm
    clear qm
    go_wp2_with fail
    refine (HNM.out _).mono ?_
    rintro E w6 ⟨rfl, hb⟩
    have HF6 := mk0 ((HF3.out).below hb)
    clear hb HF3 HNM hl
    cases qn : nameB x with
    | false =>
     have HV := mk0 (show hdW e1 e2 wd rest = none by unfold hdW; rw [if_neg (by rw [HQ1.out]; exact l16_), HX.out, if_neg (by rw [HQ3.out]; exact l16_), if_neg (by rw [HQ3.out]; exact l16_), HQM.out]; simp only; rw [if_neg (by rw [qn]; exact l16_)])
     have HK := mk0 (HF6.out).kr
     clear qn
     go_wp2
     exact ⟨rfl, HK.out, .inl ⟨HDR.out.trans HV.out, rfl⟩⟩
    | true =>
     have HV := mk0 (show hdW e1 e2 wd rest = some ((1, nv), rest) by unfold hdW; rw [if_neg (by rw [HQ1.out]; exact l16_), HX.out, if_neg (by rw [HQ3.out]; exact l16_), if_neg (by rw [HQ3.out]; exact l16_), HQM.out]; simp only; rw [if_pos qn])
     clear qn
     obtain ⟨⟨c0, c1, c2⟩, f0, f1, f2⟩ := (HF6.out).cells
     have HB0 := mk0 (blk_set (blk_set (blk_set (HF6.out).h2 0 (.int .i64 1)) 1 (.int .i64 nv)) 2 (.slice none 0 0))
     have HK0 := mk0 ((((HF6.out).kr.far HLT.out (Nat.le_refl _) 0 (.int .i64 1)).far HLT.out (Nat.le_refl _) 1 (.int .i64 nv)).far HLT.out (Nat.le_refl _) 2 (.slice none 0 0))
     have HR0 := mk0 ((((HF6.out).rm.rt.far (g := W.heap.size) (by have := HLT.out; omega) 0 (.int .i64 1)).far (g := W.heap.size) (by have := HLT.out; omega) 1 (.int .i64 nv)).far (g := W.heap.size) (by have := HLT.out; omega) 2 (.slice none 0 0))
     go_wp2
     refine bodyPost_ret (results_single rfl (.cell W.heap.size 50 #[.int .i64 1, .int .i64 nv, .slice none 0 0] (0, 0) _ rfl HB0.out Tryz.underlying50 rfl (by kernel_rfl) .nil)) rfl ?_
     exact ⟨HK0.out, .inr ⟨1, nv, rest, HDR.out.trans HV.out, rfl, HR0.out⟩⟩
  | true =>
   have HQ3 := mk0 q3
   clear q3
   have HK := mk0 (fun (W : World) (hW : Below w5.heap.size w5 W) => And.intro (aT_ hW (HF3.out).rm.rt.cells.2.1) (aT_ hW (HF3.out).rm.rt.cells.2.2))
   have hd := below_drew (Below.refl w5.heap.size w5)
   go_upto_region 11 with (fail)
   go_region_held3 (fun w' => w'.cell? ⟨b, 1, none⟩ = some (.map (some B1)) ∧ w'.cell? ⟨b, 2, none⟩ = some (.map (some B2))) (first | exact HK.out _ hd | fail) (first | fail)
   have HF4 := mk0 ((HF3.out).below hd)
   clear hd HK HF3
   generalize w5.drew = w7 at *
   have hl := MapIs.look (HF4.out).rm.i1 keyStr Tryz.underlying90 (zero3 w7) HDOM.out true
   cases qm : mget x e1 with
   | none =>
    rw [qm] at hl
    simp only [if_true] at hl
    have HV := mk0 (show hdW e1 e2 wd rest = none by unfold hdW; rw [if_neg (by rw [HQ1.out]; exact l16_), HX.out, if_pos HQ3.out, if_pos HQ3.out, qm])
    have HK := mk0 (HF4.out).kr
    clear qm
    go_wp2
    exact ⟨rfl, HK.out, .inl ⟨HDR.out.trans HV.out, rfl⟩⟩
   | some nv =>
    rw [qm] at hl
    simp only [if_true] at hl
    unfold ki at hl
    have HQM := mk0 qm
    clear qm
    go_wp2_with fail
    refine (HNM.out _).mono ?_
    rintro E w6 ⟨rfl, hb⟩
    have HF6 := mk0 ((HF4.out).below hb)
    clear hb HF4 HNM hl
    cases qn : nameB x with
    | false =>
     have HV := mk0 (show hdW e1 e2 wd rest = none by unfold hdW; rw [if_neg (by rw [HQ1.out]; exact l16_), HX.out, if_pos HQ3.out, if_pos HQ3.out, HQM.out]; simp only; rw [if_neg (by rw [qn]; exact l16_)])
     have HK := mk0 (HF6.out).kr
     clear qn
     go_wp2
     exact ⟨rfl, HK.out, .inl ⟨HDR.out.trans HV.out, rfl⟩⟩
    | true =>
     have HV := mk0 (show hdW e1 e2 wd rest = some ((2, nv), rest) by unfold hdW; rw [if_neg (by rw [HQ1.out]; exact l16_), HX.out, if_pos HQ3.out, if_pos HQ3.out, HQM.out]; simp only; rw [if_pos qn])
     clear qn
     obtain ⟨⟨c0, c1, c2⟩, f0, f1, f2⟩ := (HF6.out).cells
     have HB0 := mk0 (blk_set (blk_set (blk_set (HF6.out).h2 0 (.int .i64 2)) 1 (.int .i64 nv)) 2 (.slice none 0 0))
     have HK0 := mk0 ((((HF6.out).kr.far HLT.out (Nat.le_refl _) 0 (.int .i64 2)).far HLT.out (Nat.le_refl _) 1 (.int .i64 nv)).far HLT.out (Nat.le_refl _) 2 (.slice none 0 0))
     have HR0 := mk0 ((((HF6.out).rm.rt.far (g := W.heap.size) (by have := HLT.out; omega) 0 (.int .i64 2)).far (g := W.heap.size) (by have := HLT.out; omega) 1 (.int .i64 nv)).far (g := W.heap.size) (by have := HLT.out; omega) 2 (.slice none 0 0))
     go_wp2
     refine bodyPost_ret (results_single rfl (.cell W.heap.size 50 #[.int .i64 2, .int .i64 nv, .slice none 0 0] (0, 0) _ rfl HB0.out Tryz.underlying50 rfl (by kernel_rfl) .nil)) rfl ?_
     exact ⟨HK0.out, .inr ⟨2, nv, rest, HDR.out.trans HV.out, rfl, HR0.out⟩⟩
theorem hdR_le {e1 e2 : Ents} {l r : List UInt8} {p : Int × Int} (h : hdR e1 e2 l = some (p, r)) : r.length ≤ l.length := by
 unfold hdR hdW at h
 have hd : (l.drop (wordN l)).length ≤ l.length := by rw [l9_]; omega
 split at h
 ·split at h
  ·cases h; exact hd
  ·cases h
 ·split at h
  ·cases h
  ·split at h
   ·cases h; exact hd
   ·cases h
def tmP (e1 e2 : Ents) : Nat → Int × Int → List S50 → List UInt8 → Option (S50 × List UInt8)
 | 0, _, _, _ => none
 | n + 1, kn, acc, l =>
  if Lib.hasPrefix l [32] = true then
   (if Lib.hasPrefix (l.drop 1) [40] = true then
    (hdR e1 e2 ((l.drop 1).drop 1)).bind fun p => (tmP e1 e2 n p.1 [] p.2).bind fun q =>
     if q.1.f2.length = 0 then none else if Lib.hasPrefix q.2 [41] = true then tmP e1 e2 n kn (acc ++ [q.1]) (q.2.drop 1) else none
   else (hdR e1 e2 (l.drop 1)).bind fun p => tmP e1 e2 n kn (acc ++ [⟨p.1.1, p.1.2, []⟩]) p.2)
  else some (⟨kn.1, kn.2, acc⟩, l)
theorem tmP_le (e1 e2 : Ents) (n : Nat) : ∀ (kn : Int × Int) (acc : List S50) (l : List UInt8) (p : S50 × List UInt8), tmP e1 e2 n kn acc l = some p → p.2.length ≤ l.length := by
 induction n with
 | zero => intro kn acc l p h; simp [tmP] at h
 | succ n ih =>
  intro kn acc l p h
  rw [tmP] at h
  split at h
  ·split at h
   ·obtain ⟨a, ha, h⟩ := Option.bind_eq_some_iff.1 h
    obtain ⟨q, hq, h⟩ := Option.bind_eq_some_iff.1 h
    have h1 := hdR_le ha
    have h2 := ih _ _ _ _ hq
    rw [l9_, l9_] at h1
    split at h
    ·cases h
    ·split at h
     ·have h3 := ih _ _ _ _ h
      rw [l9_] at h3
      omega
     ·cases h
   ·obtain ⟨a, ha, h⟩ := Option.bind_eq_some_iff.1 h
    have h1 := hdR_le ha
    have h2 := ih _ _ _ _ h
    rw [l9_] at h1
    omega
  ·cases h
   exact Nat.le_refl _
theorem tmP_fuel (e1 e2 : Ents) (n : Nat) : ∀ (m : Nat) (kn : Int × Int) (acc : List S50) (l : List UInt8), l.length < n → l.length < m → tmP e1 e2 n kn acc l = tmP e1 e2 m kn acc l := by
 induction n with
 | zero => intro m kn acc l h; omega
 | succ n ih =>
  intro m kn acc l h1 h2
  cases m with
  | zero => omega
  | succ m =>
   rw [tmP, tmP]
   by_cases q : Lib.hasPrefix l [32] = true
   ·have hl := hp_len q
    simp only [l8_, List.length_nil] at hl
    rw [if_pos q, if_pos q]
    by_cases q2 : Lib.hasPrefix (l.drop 1) [40] = true
    ·rw [if_pos q2, if_pos q2]
     cases e : hdR e1 e2 ((l.drop 1).drop 1) with
     | none => rfl
     | some p =>
      have h3 := hdR_le e
      rw [l9_, l9_] at h3
      simp only [l23_]
      rw [ih m p.1 [] p.2 (by omega) (by omega)]
      cases e2 : tmP e1 _ m p.1 [] p.2 with
      | none => rfl
      | some q =>
       have h4 := tmP_le _ _ _ _ _ _ _ e2
       simp only [l23_]
       rw [ih m _ _ (q.2.drop 1) (by rw [l9_]; omega) (by rw [l9_]; omega)]
    ·rw [if_neg q2, if_neg q2]
     cases e : hdR e1 e2 (l.drop 1) with
     | none => rfl
     | some p =>
      have h3 := hdR_le e
      rw [l9_] at h3
      simp only [l23_]
      rw [ih m _ _ p.2 (by omega) (by omega)]
   ·rw [if_neg q, if_neg q]
def tmA (e1 e2 : Ents) (kn : Int × Int) (acc : List S50) (l : List UInt8) : Option (S50 × List UInt8) := tmP e1 e2 (l.length + 1) kn acc l
def tmR (e1 e2 : Ents) (l : List UInt8) : Option (S50 × List UInt8) := (hdR e1 e2 l).bind fun p => tmA e1 e2 p.1 [] p.2
theorem tmR_le {e1 e2 : Ents} {l : List UInt8} {p : S50 × List UInt8} (h : tmR e1 e2 l = some p) : p.2.length ≤ l.length := by
 obtain ⟨a, ha, h⟩ := Option.bind_eq_some_iff.1 h
 exact Nat.le_trans (tmP_le _ _ _ _ _ _ _ h) (hdR_le ha)
theorem tmA_end {e1 e2 : Ents} {kn : Int × Int} {acc : List S50} {l : List UInt8} (h : Lib.hasPrefix l [32] = false) : tmA e1 e2 kn acc l = some (⟨kn.1, kn.2, acc⟩, l) := by
 unfold tmA; rw [tmP, if_neg (by rw [h]; exact l16_)]
theorem tmA_head {e1 e2 : Ents} {kn : Int × Int} {acc : List S50} {l : List UInt8} (h : Lib.hasPrefix l [32] = true) (h2 : Lib.hasPrefix (l.drop 1) [40] = false) :
  tmA e1 e2 kn acc l = (hdR e1 e2 (l.drop 1)).bind fun p => tmA e1 e2 kn (acc ++ [⟨p.1.1, p.1.2, []⟩]) p.2 := by
 have hl := hp_len h
 simp only [l8_, List.length_nil] at hl
 unfold tmA
 rw [tmP, if_pos h, if_neg (by rw [h2]; exact l16_)]
 cases e : hdR e1 e2 (l.drop 1) with
 | none => rfl
 | some p =>
  have h3 := hdR_le e
  rw [l9_] at h3
  simp only [l23_]
  exact tmP_fuel _ _ _ _ _ _ _ (by omega) (by omega)
theorem tmA_sub {e1 e2 : Ents} {kn : Int × Int} {acc : List S50} {l : List UInt8} (h : Lib.hasPrefix l [32] = true) (h2 : Lib.hasPrefix (l.drop 1) [40] = true) :
  tmA e1 e2 kn acc l = (tmR e1 e2 ((l.drop 1).drop 1)).bind fun q => if q.1.f2.length = 0 then none else if Lib.hasPrefix q.2 [41] = true then tmA e1 e2 kn (acc ++ [q.1]) (q.2.drop 1) else none := by
 have hl := hp_len h
 have hl2 := hp_len h2
 rw [l9_] at hl2
 simp only [l8_, List.length_nil] at hl hl2
 unfold tmR tmA
 rw [tmP, if_pos h, if_pos h2]
 cases e : hdR e1 e2 ((l.drop 1).drop 1) with
 | none => rfl
 | some p =>
  have h3 := hdR_le e
  rw [l9_, l9_] at h3
  simp only [l23_]
  rw [tmP_fuel _ _ l.length (p.2.length + 1) p.1 [] p.2 (by omega) (by omega)]
  cases e2 : tmP e1 _ (p.2.length + 1) p.1 [] p.2 with
  | none => rfl
  | some q =>
   have h4 := tmP_le _ _ _ _ _ _ _ e2
   simp only [l23_]
   rw [tmP_fuel _ _ l.length ((q.2.drop 1).length + 1) _ _ (q.2.drop 1) (by rw [l9_]; omega) (by omega)]
def TmQ (b : Nat) (l : List UInt8) (B1 B2 : Nat) (e1 e2 : Ents) (W : World) (E : Ending) (w' : World) : Prop :=
 KR b W w' ∧ (tmR e1 e2 l = none ∧ E = pwrong ∨ ∃ t r v, tmR e1 e2 l = some (t, r) ∧ E = .returned (.agg #[.int .i64 t.f0, .int .i64 t.f1, v]) ∧ Kd.R k50 50 w' W.heap.size (fun k => W.heap.size ≤ k) v t.f2 ∧ RT b r (.map (some B1)) (.map (some B2)) w')
structure FT (b : Nat) (l : List UInt8) (B1 B2 : Nat) (e1 e2 : Ents) (W W1 : World) (g : Nat) (kn : Int × Int) (acc : List S50) (A : Option Addr) (c : Nat) : Prop where
 rm : RM b l B1 B2 e1 e2 W1
 h2 : W1.heap[W.heap.size]? = some (.cells #[.int .i64 0, .int .i64 0, .slice none 0 0] 50 (0, 0))
 h3 : W1.heap[g]? = some (.cells #[.int .i64 kn.1, .int .i64 kn.2, .slice A acc.length c] 50 (0, 0))
 row : Kd.R k50 50 W1 W.heap.size (fun k => g < k) (.slice A acc.length c) acc
 kr : KR b W W1
 lt : b < W.heap.size
 lt3 : W.heap.size < g
section
variable {b B1 B2 g : Nat} {l l2 : List UInt8} {e1 e2 : Ents} {W W1 W2 : World} {kn : Int × Int} {acc : List S50} {A : Option Addr} {c : Nat}
theorem FT.call (h : FT b l B1 B2 e1 e2 W W1 g kn acc A c) (hr : RT b l2 (.map (some B1)) (.map (some B2)) W2) (hk : KR b W1 W2) : FT b l2 B1 B2 e1 e2 W W2 g kn acc A c :=
 ⟨h.rm.call hr hk, hk.blk (by have := h.lt; omega) h.h2, hk.blk (by have := h.lt; have := h.lt3; omega) h.h3, hk.rr h.row (fun k hk => by have := h.lt; have := h.lt3; omega), h.kr.trans hk, h.lt, h.lt3⟩
theorem FT.below (h : FT b l B1 B2 e1 e2 W W1 g kn acc A c) (hb : Below W1.heap.size W1 W2) : FT b l B1 B2 e1 e2 W W2 g kn acc A c :=
 h.call (h.rm.rt.keep hb) (KR.below (Nat.le_of_lt h.rm.lt) hb)
theorem FT.set (h : FT b l B1 B2 e1 e2 W W1 g kn acc A c) (s : ByteArray) : FT b s.data.toList B1 B2 e1 e2 W (W1.setCell ⟨b, 0, none⟩ (.string s)) g kn acc A c :=
 h.call (h.rm.rt.set s) ((KR.refl b W1).set 0 _)
theorem FT.push {a : S50} {A2 : Option Addr} {c2 : Nat} (h : FT b l B1 B2 e1 e2 W W1 g kn acc A c) (ho : Kd.R k50 50 W2 W.heap.size (fun k => g < k) (.slice A2 (acc ++ [a]).length c2) (acc ++ [a])) (hb : Below W.heap.size W1 W2) (hg : W1.grownBy W2 (Value.slice A acc.length c).ownBlock) :
  FT b l B1 B2 e1 e2 W (W2.setCell ⟨g, 2, none⟩ (.slice A2 (acc.length + 1) c2)) g kn (acc ++ [a]) A2 c2 := by
 rw [show acc.length + 1 = (acc ++ [a]).length from by simp]
 have hrow : ∀ k, (Value.slice A acc.length c).ownBlock = some k → g < k := h.row.1
 have hlt := h.lt
 have hlt3 := h.lt3
 have h2 := aU_ h.h2 hg (fun e => by have := hrow _ e.symm; omega)
 have h3 := aU_ h.h3 hg (fun e => by have := hrow _ e.symm; omega)
 have h4 := aU_ h.rm.rt.blk hg (fun e => by have := hrow _ e.symm; omega)
 have hm : ∀ B es, B ≠ g → MapIs W1 B Value.string ki sdom es → MapIs (W2.setCell ⟨g, 2, none⟩ (.slice A2 (acc ++ [a]).length c2)) B Value.string ki sdom es := by
  intro B es hB hM
  refine (hM.grown hg (fun e => ?_)).far hB _
  obtain ⟨cc, hcc⟩ := Kd.R_typed h.row _ e.symm
  exact hM.ne_row hcc rfl
 have n1 : B1 ≠ g := fun e => h.rm.i1.ne_row h.h3 e.symm
 have n2 : B2 ≠ g := fun e => h.rm.i2.ne_row h.h3 e.symm
 refine ⟨⟨⟨blk_far h4 (by show b ≠ g; omega) _⟩, hm B1 e1 n1 h.rm.i1, hm B2 e2 n2 h.rm.i2, h.rm.n1, h.rm.n2⟩, blk_far h2 (by show W.heap.size ≠ g; omega) _, blk_set h3 2 _, Kd.R_far ho (fun k hk => by show k ≠ g; omega) _, ⟨?_, ?_, ?_⟩, hlt, hlt3⟩
 ·exact (Below.trans h.kr.lo (Below.mono hb (Nat.le_of_lt hlt))).setCell (p := ⟨g, 2, none⟩) (by show b ≤ g; omega) _
 ·have := Nat.le_trans h.kr.keep.1 hb.size
  simpa [World.setCell] using this
 ·intro i hi hne _
  rw [Below.heap_setCell W2 ⟨g, 2, none⟩ _ i (by show i ≠ g; omega)]
  exact (hb.block i hi).trans (h.kr.keep.2 i hi hne (by simp))
theorem FT.cells (h : FT b l B1 B2 e1 e2 W W1 g kn acc A c) : (W1.cell? ⟨W.heap.size, 0, none⟩ = some (.int .i64 0) ∧ W1.cell? ⟨W.heap.size, 1, none⟩ = some (.int .i64 0) ∧ W1.cell? ⟨W.heap.size, 2, none⟩ = some (.slice none 0 0)) ∧ (W1.cell? ⟨g, 0, none⟩ = some (.int .i64 kn.1) ∧ W1.cell? ⟨g, 1, none⟩ = some (.int .i64 kn.2) ∧ W1.cell? ⟨g, 2, none⟩ = some (.slice A acc.length c)) ∧ W1.frozen? ⟨W.heap.size, 0, none⟩ = false ∧ W1.frozen? ⟨W.heap.size, 1, none⟩ = false ∧ W1.frozen? ⟨W.heap.size, 2, none⟩ = false ∧ W1.frozen? ⟨g, 2, none⟩ = false :=
 ⟨⟨(aC_ h.h2 0).trans rfl, (aC_ h.h2 1).trans rfl, (aC_ h.h2 2).trans rfl⟩, ⟨(aC_ h.h3 0).trans rfl, (aC_ h.h3 1).trans rfl, (aC_ h.h3 2).trans rfl⟩, aF_ h.h2 0, aF_ h.h2 1, aF_ h.h2 2, aF_ h.h3 2⟩
end
set_option maxHeartbeats 8000000 in
set_option maxRecDepth 100000 in
theorem rtm_calls (b : Nat) (B1 B2 : Nat) (e1 e2 : Ents) (N : Nat) : ∀ (l : List UInt8) (W : World), l.length < N → N ≤ 70000 → RM b l B1 B2 e1 e2 W → Calls Tryz.prog 60 #[.pointer (some ⟨b, 0, none⟩)] W (TmQ b l B1 B2 e1 e2 W) := by
 induction N with
 | zero => intro l W h; omega
 | succ N ih =>
  intro l W hN hN7 hRM
  have IH := mk0 ih
  have HN := mk0 (show l.length < N + 1 ∧ N + 1 ≤ 70000 from ⟨hN, hN7⟩)
  have HLT := mk0 hRM.lt
  have HF := mk0 (FH.mk (hRM.keep (aA_ (Below.refl W.heap.size W) (.cells #[.int .i64 0, .int .i64 0, .slice none 0 0] 50))) (aS_ W _) (KR.below (Nat.le_of_lt hRM.lt) (aA_ (Below.refl W.heap.size W) (.cells #[.int .i64 0, .int .i64 0, .slice none 0 0] 50))) hRM.lt)
  have HSZ1 := mk0 (show W.heap.size < (W.alloc (.cells #[.int .i64 0, .int .i64 0, .slice none 0 0] 50)).heap.size by simp)
  clear ih hN hN7 hRM
  go_enter Tryz.func60, Tryz.ntmps60
  go_upto_region 1 with (fail)
  generalize (W.alloc (.cells #[.int .i64 0, .int .i64 0, .slice none 0 0] 50)) = W1 at *
  have HH := mk0 (rhd_calls b l B1 B2 e1 e2 W1 (HF.out).rm (by have := HN.out; omega))
  go_wp2_with fail
  refine (HH.out).mono ?_
  rintro E w2 ⟨hk, hE⟩
  rcases hE with ⟨hn, rfl⟩ | ⟨k, n, r, hv, rfl, hr⟩
  ·have HK := mk0 ((HF.out).kr.trans hk)
   have HV := mk0 (show tmR e1 e2 l = none by unfold tmR; rw [hn]; rfl)
   clear hn hk HF HH
   unfold pwrong
   go_wp2
   exact ⟨rfl, HK.out, .inl ⟨HV.out, rfl⟩⟩
  ·have HF2 := mk0 ((HF.out).call hr hk)
   have HSZ2 := mk0 (show W.heap.size < w2.heap.size from l12_ HSZ1.out hk.keep.1)
   have HV := mk0 (show tmR e1 e2 l = tmA e1 e2 (k, n) [] r by unfold tmR; rw [hv]; rfl)
   have HLR := mk0 (hdR_le hv)
   clear hr hk hv HF HH HSZ1
   go_upto_region 2 with (fail)
   have HFT := mk0 (show FT b r B1 B2 e1 e2 W (w2.alloc (.cells #[.int .i64 k, .int .i64 n, .slice none 0 0] 50)) w2.heap.size (k, n) [] none 0 from by
    have h := (HF2.out).below (aA_ (Below.refl w2.heap.size w2) (.cells #[.int .i64 k, .int .i64 n, .slice none 0 0] 50))
    exact ⟨h.rm, h.h2, aS_ w2 _, Kd.R_nil _ _ _ _ _, h.kr, h.lt, HSZ2.out⟩)
   clear HF2
   generalize (w2.alloc (.cells #[.int .i64 k, .int .i64 n, .slice none 0 0] 50)) = w3 at *
   generalize w2.heap.size = g at *
   go_loopg [] r.length (fun gg wi => ∃ (acc : List S50) (l1 : List UInt8) (A : Option Addr) (c : Nat), l1.length ≤ gg ∧ Aside0 (tmR e1 e2 l = tmA e1 e2 (k, n) acc l1) ∧ Aside0 (acc.length + l1.length ≤ r.length) ∧ Aside0 (FT b l1 B1 B2 e1 e2 W wi g (k, n) acc A c))
   case atStart => exact ⟨[], r, none, 0, Nat.le_refl _, HV, ⟨by simp⟩, HFT⟩
   case round =>
    clear HFT HV
    obtain ⟨acc, l1, A, c, hgg, HE, HL, HF⟩ := hrel
    obtain ⟨s, hs⟩ : ∃ s : ByteArray, s = ⟨l1.toArray⟩ := ⟨_, rfl⟩
    have HS := mk0 hs
    have HSD := mk0 (show s.data.toList = l1 by rw [hs])
    have c0 := (HF.out).rm.rt.cells.1.1
    have f0 := (HF.out).rm.rt.cells.1.2
    rw [← hs] at c0
    have HP := mk0 (fun (W1 : World) => Tryz.strings_HasPrefix s ⟨#[32]⟩ W1)
    rw [HSD.out, show (ByteArray.mk #[32]).data.toList = [32] from rfl] at HP
    clear hs
    go_wp2_with fail
    refine (HP.out _).mono ?_
    rintro E w4 ⟨rfl, hw⟩
    subst hw
    cases q : Lib.hasPrefix l1 [32] with
    | false =>
     have HV := mk0 (tmA_end (e1 := e1) (e2 := e2) (kn := (k, n)) (acc := acc) q)
     clear q c0 f0 HP HS HSD
     obtain ⟨⟨c0, c1, c2⟩, ⟨d0, d1, d2⟩, f0, f1, f2, _⟩ := (HF.out).cells
     have hlt := (HF.out).lt
     have HB0 := mk0 (blk_set (blk_set (blk_set (HF.out).h2 0 (.int .i64 k)) 1 (.int .i64 n)) 2 (.slice A acc.length c))
     have HK0 := mk0 ((((HF.out).kr.far hlt (Nat.le_refl _) 0 (.int .i64 k)).far hlt (Nat.le_refl _) 1 (.int .i64 n)).far hlt (Nat.le_refl _) 2 (.slice A acc.length c))
     have HR0 := mk0 ((((HF.out).rm.rt.far (g := W.heap.size) (by omega) 0 (.int .i64 k)).far (g := W.heap.size) (by omega) 1 (.int .i64 n)).far (g := W.heap.size) (by omega) 2 (.slice A acc.length c))
     have hne : ∀ q, g < q → q ≠ W.heap.size := fun q hq => by have := (HF.out).lt3; omega
     have HW0 := mk0 (Kd.R_far (p := ⟨W.heap.size, 2, none⟩) (Kd.R_far (p := ⟨W.heap.size, 1, none⟩) (Kd.R_far (p := ⟨W.heap.size, 0, none⟩) (HF.out).row hne (.int .i64 k)) hne (.int .i64 n)) hne (.slice A acc.length c))
     clear hlt hne
     go_wp2
     refine bodyPost_ret (results_single rfl (.cell W.heap.size 50 #[.int .i64 k, .int .i64 n, .slice A acc.length c] (0, 0) _ rfl HB0.out Tryz.underlying50 rfl (by kernel_rfl) .nil)) rfl ?_
     exact ⟨HK0.out, .inr ⟨⟨k, n, acc⟩, l1, .slice A acc.length c, HE.out.trans HV.out, rfl, Kd.R_mono HW0.out (fun q hq => by have := (HF.out).lt3; omega), HR0.out⟩⟩
    | true =>
     have HQ := mk0 q
     have HP1 := mk0 (hp_len q)
     have h1 : 1 ≤ s.size := by rw [Lib.size_eq, HSD.out]; exact hp_len q
     have HF1 := (HF.out).set (s.extract 1 s.size)
     have hx : (s.extract 1 s.size).data.toList = l1.drop 1 := by rw [Lib.extract_to_end, HSD.out]
     rw [hx] at HF1
     have HF1 := mk0 HF1
     have HX := mk0 hx
     clear q hx HP
     go_upto_region 4 with (fail)
     clear c0 f0 HF h1
     generalize (w4.setCell ⟨b, 0, none⟩ (.string (s.extract 1 s.size))) = w5 at *
     obtain ⟨s1, hs1⟩ : ∃ s1 : ByteArray, s.extract 1 s.size = s1 := ⟨_, rfl⟩
     rw [hs1] at HX
     clear hs1
     have hs1 : s1 = ⟨(l1.drop 1).toArray⟩ := ba_eq HX.out
     have c0 := (HF1.out).rm.rt.cells.1.1
     have f0 := (HF1.out).rm.rt.cells.1.2
     rw [← hs1] at c0
     have HP := mk0 (fun (W1 : World) => Tryz.strings_HasPrefix s1 ⟨#[40]⟩ W1)
     rw [HX.out, show (ByteArray.mk #[40]).data.toList = [40] from rfl] at HP
     clear hs1
     go_wp2_with fail
     refine (HP.out _).mono ?_
     rintro E w6 ⟨rfl, hw⟩
     subst hw
     cases q2 : Lib.hasPrefix (l1.drop 1) [40] with
     | false =>
      have HV := mk0 (tmA_head (e1 := e1) (e2 := e2) (kn := (k, n)) (acc := acc) HQ.out q2)
      have HH := mk0 (fun (W7 : World) (hW : Below w6.heap.size w6 W7) => rhd_calls b (l1.drop 1) B1 B2 e1 e2 W7 ((HF1.out).rm.keep hW) (by have := HL.out; have := HN.out; have := HLR.out; rw [l9_]; omega))
      clear c0 f0
      cases qh : hdR e1 e2 (l1.drop 1) with
      | none =>
       rw [qh] at HV
       have HV := mk0 (show tmR e1 e2 l = none from HE.out.trans HV.out)
       have HQH := mk0 qh
       have hq := (HF1.out).cells.2.1.2.2
       have hd := below_drew (Below.refl w6.heap.size w6)
       have HK := mk0 (fun (W7 : World) (hW : Below w6.heap.size w6 W7) => aT_ hW hq)
       clear hq
       have HKR := mk0 ((HF1.out).kr.trans (KR.below (Nat.le_of_lt (HF1.out).rm.lt) hd))
       go_upto_region 5 with (fail)
       have hq := HK.out _ hd
       refine wp_region_any (by kernel_rfl) ?_
       change wpAny _ _ _ _ _ _ _ (World.drew _)
       refine wpAny_ready (rs := [0, 2]) (by kernel_rfl) (by simp) ?_
       refine AllReady.cons rfl (fun K hK => ?_) ?_
       ·go_simp
        refine hK _ _ ?_
        clear hK K
        refine wpAny_ready (rs := [1, 2]) (by kernel_rfl) (by simp) ?_
        refine AllReady.cons rfl (fun K hK => ?_) ?_
        ·go_simp
         refine hK _ _ ?_
         clear hK K
         refine wpAny_ready (rs := [2]) (by kernel_rfl) (by simp) ?_
         refine AllReady.cons rfl (fun K hK => ?_) ?_
         ·go_simp
          refine hK _ _ ?_
          clear hK K
          refine wpAny_ready (rs := [3]) (by kernel_rfl) (by simp) ?_
          refine AllReady.cons rfl (fun K hK => ?_) ?_
          ·go_simp
           go_wp2_with (go_at_call 104; refine (HH.out _ hd).mono ?_; rintro E w8 ⟨hk, hE⟩; (rcases hE with ⟨_, rfl⟩ | ⟨k4, n4, r4, hv, _⟩); (exact ⟨rfl, (HKR.out).trans hk, .inl ⟨HV.out, rfl⟩⟩); (exact absurd (HQH.out.symm.trans hv) (by simp)))
          exact AllReady.nil
         exact AllReady.nil
        refine AllReady.cons rfl (fun K hK => ?_) ?_
        ·go_simp
         refine hK _ _ ?_
         clear hK K
         refine wpAny_ready (rs := [1, 3]) (by kernel_rfl) (by simp) ?_
         refine AllReady.cons rfl (fun K hK => ?_) ?_
         ·go_simp
          refine hK _ _ ?_
          clear hK K
          refine wpAny_ready (rs := [3]) (by kernel_rfl) (by simp) ?_
          refine AllReady.cons rfl (fun K hK => ?_) ?_
          ·go_simp
           go_wp2_with (go_at_call 104; refine (HH.out _ hd).mono ?_; rintro E w8 ⟨hk, hE⟩; (rcases hE with ⟨_, rfl⟩ | ⟨k4, n4, r4, hv, _⟩); (exact ⟨rfl, (HKR.out).trans hk, .inl ⟨HV.out, rfl⟩⟩); (exact absurd (HQH.out.symm.trans hv) (by simp)))
          exact AllReady.nil
         refine AllReady.cons rfl (fun K hK => ?_) ?_
         ·go_simp
          go_wp2_with (go_at_call 104; refine (HH.out _ hd).mono ?_; rintro E w8 ⟨hk, hE⟩; (rcases hE with ⟨_, rfl⟩ | ⟨k4, n4, r4, hv, _⟩); (exact ⟨rfl, (HKR.out).trans hk, .inl ⟨HV.out, rfl⟩⟩); (exact absurd (HQH.out.symm.trans hv) (by simp)))
         exact AllReady.nil
        exact AllReady.nil
       refine AllReady.cons rfl (fun K hK => ?_) ?_
       ·go_simp
        refine hK _ _ ?_
        clear hK K
        refine wpAny_ready (rs := [0, 3]) (by kernel_rfl) (by simp) ?_
        refine AllReady.cons rfl (fun K hK => ?_) ?_
        ·go_simp
         refine hK _ _ ?_
         clear hK K
         refine wpAny_ready (rs := [1, 3]) (by kernel_rfl) (by simp) ?_
         refine AllReady.cons rfl (fun K hK => ?_) ?_
         ·go_simp
          refine hK _ _ ?_
          clear hK K
          refine wpAny_ready (rs := [3]) (by kernel_rfl) (by simp) ?_
          refine AllReady.cons rfl (fun K hK => ?_) ?_
          ·go_simp
           go_wp2_with (go_at_call 104; refine (HH.out _ hd).mono ?_; rintro E w8 ⟨hk, hE⟩; (rcases hE with ⟨_, rfl⟩ | ⟨k4, n4, r4, hv, _⟩); (exact ⟨rfl, (HKR.out).trans hk, .inl ⟨HV.out, rfl⟩⟩); (exact absurd (HQH.out.symm.trans hv) (by simp)))
          exact AllReady.nil
         refine AllReady.cons rfl (fun K hK => ?_) ?_
         ·go_simp
          go_wp2_with (go_at_call 104; refine (HH.out _ hd).mono ?_; rintro E w8 ⟨hk, hE⟩; (rcases hE with ⟨_, rfl⟩ | ⟨k4, n4, r4, hv, _⟩); (exact ⟨rfl, (HKR.out).trans hk, .inl ⟨HV.out, rfl⟩⟩); (exact absurd (HQH.out.symm.trans hv) (by simp)))
         exact AllReady.nil
        refine AllReady.cons rfl (fun K hK => ?_) ?_
        ·go_simp
         go_wp2_with (go_at_call 104; refine (HH.out _ hd).mono ?_; rintro E w8 ⟨hk, hE⟩; (rcases hE with ⟨_, rfl⟩ | ⟨k4, n4, r4, hv, _⟩); (exact ⟨rfl, (HKR.out).trans hk, .inl ⟨HV.out, rfl⟩⟩); (exact absurd (HQH.out.symm.trans hv) (by simp)))
        exact AllReady.nil
       exact AllReady.nil
      | some p =>
       obtain ⟨⟨k4, n4⟩, r4⟩ := p
       rw [qh] at HV
       have HV := mk0 (show tmR e1 e2 l = tmA e1 e2 (k, n) (acc ++ [⟨k4, n4, []⟩]) r4 from HE.out.trans HV.out)
       have HR4 := mk0 (hdR_le qh)
       have hq := (HF1.out).cells.2.1.2.2
       have hd := below_drew (Below.refl w6.heap.size w6)
       have HK := mk0 (fun (W7 : World) (hW : Below w6.heap.size w6 W7) => aT_ hW hq)
       have HH2 : Aside0 (Calls Tryz.prog 104 #[.pointer (some ⟨b, 0, none⟩)] w6.drew fun E w' => E = .returned (.agg #[.int .i64 k4, .int .i64 n4, .slice none 0 0]) ∧ RT b r4 (.map (some B1)) (.map (some B2)) w' ∧ KR b w6.drew w') := ⟨(HH.out _ hd).mono fun E w' hE => by
        obtain ⟨hk, ⟨h0, _⟩ | ⟨k5, n5, r5, hv, rfl, hr⟩⟩ := hE
        ·rw [qh] at h0; cases h0
        ·rw [qh] at hv
         cases hv
         exact ⟨rfl, hr, hk⟩⟩
       have HFD := mk0 ((HF1.out).below hd)
       have HLB := mk0 (show (acc.length + 1) * 40 ≤ 140737488355328 by have := HL.out; have := HN.out; have := HLR.out; omega)
       clear hq qh
       go_upto_region 5 with (fail)
       have hq := HK.out _ hd
       refine wp_region_noPanic ?_
       go_region_law (first
        | (go_simp; go_at_call 104; refine (HH2.out).mono ?_; rintro E w8 ⟨rfl, hr, hk⟩; have HF8 := mk0 ((HFD.out).call hr hk); clear hr hk; have m2 := (HF8.out).cells.2.1.2.2; have l0 := aT_ (aA_ (Below.refl w8.heap.size w8) (.cells #[.int .i64 k4, .int .i64 n4, .slice none 0 0] 50)) m2)
        | (refine Kd.R_append_step k50 (w0 := w8) (W := w8) W.heap.size (by simp [Region.wanted]) (.tmp 27) (.tmp 30) 48 50 (.agg #[.int .i64 0, .int .i64 0, .slice none 0 0]) 40 rfl Tryz.underlying48 Q.info50 rfl (show 0 < 3 by decide) (by decide) (.slice A acc.length c) acc (⟨k4, n4, []⟩ : S50) [.int .i64 k4, .int .i64 n4, .slice none 0 0] (fun k => g < k) (fun _ => False) (by rfl) (by rfl) (Q.k50_mkM _ _ _ (⟨k4, n4, []⟩ : S50) (Kd.R_nil _ _ _ _ _)) (fun _ hk => hk.elim) (fun k hk => l12_ (blk_lt (HF8.out).h3) hk) (HF8.out).row (Below.refl _ _) (by have := (HF8.out).lt3; have := blk_lt (HF8.out).h3; omega) HLB.out ?_; intro v5 w9 ho5 hb5 hg5 hat5; (obtain ⟨A9, c9, rfl⟩ := Kd.R_slice ho5); have HF9 := mk0 ((HF8.out).push ho5 hb5 hg5); have h6 := (aU_ (HF8.out).h3 hg5 (fun e => by have := (HF8.out).row.1 _ e.symm; omega)); have c6 : w9.cell? ⟨g, 2, none⟩ = some (.slice A acc.length c) := (aC_ h6 2).trans rfl; have f6 : w9.frozen? ⟨g, 2, none⟩ = false := aF_ h6 2; clear h6 ho5 hb5 hg5 hat5)
        | fail)
       all_goals
        refine NoPanic.normal ?_
        go_wp2
        go_roundg r4.length
        case measure => have := HR4.out; have := HP1.out; rw [l9_] at *; simp only [l8_, List.length_nil] at *; omega
        case rel => exact ⟨acc ++ [⟨k4, n4, []⟩], r4, A9, c9, Nat.le_refl _, HV, ⟨by have h1 := HR4.out; have h2 := HP1.out; have h3 := HL.out; rw [l9_] at h1; simp only [l8_, List.length_nil] at h2; rw [l7_, l10_]; omega⟩, HF9⟩
     | true =>
      have HV := mk0 (tmA_sub (e1 := e1) (e2 := e2) (kn := (k, n)) (acc := acc) HQ.out q2)
      have HP2 := mk0 (hp_len q2)
      have h1 : 1 ≤ s1.size := by rw [Lib.size_eq, HX.out]; exact hp_len q2
      have HF2 := (HF1.out).set (s1.extract 1 s1.size)
      have hx : (s1.extract 1 s1.size).data.toList = (l1.drop 1).drop 1 := by rw [Lib.extract_to_end, HX.out]
      rw [hx] at HF2
      have HF2 := mk0 HF2
      clear q2 hx HP
      go_upto_region 7 with (fail)
      clear c0 f0 HF1 h1
      generalize (w6.setCell ⟨b, 0, none⟩ (.string (s1.extract 1 s1.size))) = w7 at *
      have HLB := mk0 (show (acc.length + 1) * 40 ≤ 140737488355328 by have := HL.out; have := HN.out; have := HLR.out; omega)
      have HLD := mk0 (show ((l1.drop 1).drop 1).length + 2 ≤ l1.length from by
       have h1 := HP1.out
       have h2 := HP2.out
       rw [l9_] at h2
       rw [l9_, l9_]
       simp only [l8_, List.length_nil] at h1 h2
       omega)
      generalize (l1.drop 1).drop 1 = l3 at *
      have HR := mk0 (IH.out l3 w7 (by have := HN.out; have := HL.out; have := HLD.out; have := HLR.out; omega) (by have := HN.out; omega) (HF2.out).rm)
      have HG7 := mk0 (show g < w7.heap.size from blk_lt (HF2.out).h3)
      go_wp2_with fail
      refine (HR.out).mono ?_
      rintro E w8 ⟨hk, hE⟩
      rcases hE with ⟨hn, rfl⟩ | ⟨t, r5, v, hv, rfl, hR, hr⟩
      ·have HK := mk0 ((HF2.out).kr.trans hk)
       have HV2 := mk0 (show tmA e1 e2 (k, n) acc l1 = none by rw [HV.out, hn]; rfl)
       clear hk hn HR
       unfold pwrong
       go_wp2
       exact ⟨rfl, HK.out, .inl ⟨HE.out.trans HV2.out, rfl⟩⟩
      ·obtain ⟨A3, c3, rfl⟩ := Kd.R_slice hR
       have HV5 := mk0 hv
       have HLT5 := mk0 (tmR_le hv)
       have HF8 := mk0 ((HF2.out).call hr hk)
       have HR8 := mk0 (Kd.R_new' hR (Kd.R_lt (HF2.out).row))
       clear hk hv hR hr HF2 HR
       go_upto_region 8 with (fail)
       have HX9 := mk0 (aS_ w8 (.cells #[.int .i64 t.f0, .int .i64 t.f1, .slice A3 t.f2.length c3] 50))
       have HF9 := mk0 ((HF8.out).below (aA_ (Below.refl w8.heap.size w8) (.cells #[.int .i64 t.f0, .int .i64 t.f1, .slice A3 t.f2.length c3] 50)))
       have HR9 := mk0 (Kd.R_below HR8.out (aA_ (Below.refl w8.heap.size w8) (.cells #[.int .i64 t.f0, .int .i64 t.f1, .slice A3 t.f2.length c3] 50)))
       have HBN := mk0 (show w8.heap.size ≠ b ∧ g < w8.heap.size from by have := blk_lt (HF8.out).h3; have := (HF8.out).lt; have := (HF8.out).lt3; exact ⟨by omega, by omega⟩)
       clear HF8 HR8
       generalize (w8.alloc (.cells #[.int .i64 t.f0, .int .i64 t.f1, .slice A3 t.f2.length c3] 50)) = w9 at *
       generalize w8.heap.size = b4 at *
       have p4 : w9.cell? ⟨b4, 2, none⟩ = some (.slice A3 t.f2.length c3) := (aC_ HX9.out 2).trans rfl
       by_cases hz : t.f2.length = 0
       ·have HBAD := mk0 (show tmA e1 e2 (k, n) acc l1 = none by rw [HV.out, HV5.out]; simp only [l23_]; rw [if_pos hz])
        have HK := mk0 (HF9.out).kr
        go_wp2
        exact ⟨rfl, HK.out, .inl ⟨HE.out.trans HBAD.out, rfl⟩⟩
       ·have HZ0 := mk0 hz
        obtain ⟨s5, hs5⟩ : ∃ s5 : ByteArray, s5 = ⟨r5.toArray⟩ := ⟨_, rfl⟩
        have HS5 := mk0 (show s5.data.toList = r5 by rw [hs5])
        have c0 := (HF9.out).rm.rt.cells.1.1
        have f0 := (HF9.out).rm.rt.cells.1.2
        rw [← hs5] at c0
        have HP := mk0 (fun (W1 : World) => Tryz.strings_HasPrefix s5 ⟨#[41]⟩ W1)
        rw [HS5.out, show (ByteArray.mk #[41]).data.toList = [41] from rfl] at HP
        clear hs5
        go_wp2_with fail
        refine (HP.out _).mono ?_
        rintro E w10 ⟨rfl, hw⟩
        subst hw
        cases q5 : Lib.hasPrefix r5 [41] with
        | false =>
         have HBAD := mk0 (show tmA e1 e2 (k, n) acc l1 = none by rw [HV.out, HV5.out]; simp only [l23_]; rw [if_neg HZ0.out, if_neg (by rw [q5]; exact l16_)])
         have HK := mk0 (HF9.out).kr
         clear q5
         go_wp2
         exact ⟨rfl, HK.out, .inl ⟨HE.out.trans HBAD.out, rfl⟩⟩
        | true =>
         have HGO := mk0 (show tmR e1 e2 l = tmA e1 e2 (k, n) (acc ++ [t]) (r5.drop 1) by rw [HE.out, HV.out, HV5.out]; simp only [l23_]; rw [if_neg HZ0.out, if_pos q5])
         have HP5 := mk0 (hp_len q5)
         have h1 : 1 ≤ s5.size := by rw [Lib.size_eq, HS5.out]; exact hp_len q5
         have hx : (s5.extract 1 s5.size).data.toList = r5.drop 1 := by rw [Lib.extract_to_end, HS5.out]
         have HF13 := (HF9.out).set (s5.extract 1 s5.size)
         rw [hx] at HF13
         have HF13 := mk0 HF13
         have HX13 := mk0 (blk_far HX9.out (p := ⟨b, 0, none⟩) (HBN.out).1 (.string (s5.extract 1 s5.size)))
         have HR13 := mk0 (Kd.R_far (p := ⟨b, 0, none⟩) (Kd.R_lower (base' := W.heap.size) (Kd.R_mono (ok' := fun k => (g < k ∧ some k ≠ (Value.slice A acc.length c).ownBlock)) HR9.out (fun q hq => ⟨by have := HG7.out; omega, hq.2⟩)) (by have := HG7.out; have := (HF9.out).lt3; omega)) (fun q hq => by have := (HF9.out).lt; have := (HF9.out).lt3; show q ≠ b; omega) (.string (s5.extract 1 s5.size)))
         clear q5 hx HP
         go_upto_region 11 with (fail)
         clear c0 f0 h1 p4 HF9 HX9 HR9
         generalize (w10.setCell ⟨b, 0, none⟩ (.string (s5.extract 1 s5.size))) = w13 at *
         have p40 : w13.cell? ⟨b4, 0, none⟩ = some (.int .i64 t.f0) := (aC_ HX13.out 0).trans rfl
         have p41 : w13.cell? ⟨b4, 1, none⟩ = some (.int .i64 t.f1) := (aC_ HX13.out 1).trans rfl
         have p42 : w13.cell? ⟨b4, 2, none⟩ = some (.slice A3 t.f2.length c3) := (aC_ HX13.out 2).trans rfl
         have d2 := (HF13.out).cells.2.1.2.2
         go_wp2_with ((with_reducible refine gate_builtin (b := .append) (xs := #[.tmp 66, .tmp 68]) rfl ?_); at_builtin; refine Kd.R_append k50 (w0 := w13) W.heap.size rfl (.tmp 66) (.tmp 68) 48 50 (.agg #[.int .i64 0, .int .i64 0, .slice none 0 0]) 40 rfl Tryz.underlying48 Q.info50 rfl (show 0 < 3 by decide) (by decide) (.slice A acc.length c) acc t [.int .i64 t.f0, .int .i64 t.f1, .slice A3 t.f2.length c3] (fun k => g < k) (fun k => g < k ∧ some k ≠ (Value.slice A acc.length c).ownBlock) rfl rfl (Q.k50_mkM _ _ _ t HR13.out) (fun _ hk => hk) (fun k hk => l12_ (blk_lt (HF13.out).h3) hk) (HF13.out).row (Below.refl _ _) (by have := (HF13.out).lt3; have := blk_lt (HF13.out).h3; omega) HLB.out ?_; intro v5 w9 ho5 hb5 hg5 hat5; (obtain ⟨A9, c9, rfl⟩ := Kd.R_slice ho5); have HF9 := mk0 ((HF13.out).push ho5 hb5 hg5); have h6 := (aU_ (HF13.out).h3 hg5 (fun e => by have := (HF13.out).row.1 _ e.symm; omega)); have c6 : w9.cell? ⟨g, 2, none⟩ = some (.slice A acc.length c) := (aC_ h6 2).trans rfl; have f6 : w9.frozen? ⟨g, 2, none⟩ = false := aF_ h6 2; clear h6 ho5 hb5 hg5 hat5)
         have HLN := mk0 (show (r5.drop 1).length + 3 ≤ l1.length from by
          have h1 := HLD.out
          have h2 := HP5.out
          have h3 : r5.length ≤ l3.length := HLT5.out
          rw [l9_]
          simp only [l8_, List.length_nil] at h2
          omega)
         go_roundg (r5.drop 1).length
         case measure => have := HLN.out; omega
         case rel => exact ⟨acc ++ [t], r5.drop 1, A9, c9, Nat.le_refl _, HGO, ⟨by have := HL.out; have := HLN.out; rw [l7_, l10_]; omega⟩, HF9⟩
def MX (w : World) : Prop := ∃ m : Int, w.cell? ⟨0, 0, none⟩ = some (.int .i64 m)
theorem MX.below {w w1 : World} (h : MX w) (hb : Below w.heap.size w w1) : MX w1 := by
 obtain ⟨m, hm⟩ := h
 exact ⟨m, aT_ hb hm⟩
theorem cut_calls (s sep : ByteArray) (w : World) (hs : s.size ≤ 70000) (hm : MX w) :
  Calls Tryz.prog 58 #[.string s, .string sep] w fun e w' => e = .returned (.tuple #[.string ⟨(Lib.cut s.data.toList sep.data.toList).1.toArray⟩, .string ⟨(Lib.cut s.data.toList sep.data.toList).2.1.toArray⟩, .bool (Lib.cut s.data.toList sep.data.toList).2.2]) ∧ Below w.heap.size w w' := by
 obtain ⟨m, hm⟩ := hm
 refine (Tryz.strings_Cut s sep m w (by omega) hm).mono ?_
 rintro e w' ⟨rfl, n, rfl⟩
 exact ⟨rfl, aB_ (Below.refl _ _) n⟩
theorem cut_size (l s : List UInt8) : (Lib.cut l s).1.length ≤ l.length ∧ (Lib.cut l s).2.1.length ≤ l.length := by
 unfold Lib.cut
 split
 ·simp only [List.length_take, l9_]; omega
 ·simp
def symR (l : List UInt8) : Option S71 :=
 if (Lib.cut l [32]).2.2 = true ∧ numOk (Lib.cut l [32]).2.1 = true ∧ nameB ⟨(Lib.cut l [32]).1.toArray⟩ = true then some ⟨⟨(Lib.cut l [32]).1.toArray⟩, num0V (Lib.cut l [32]).2.1⟩ else none
def SymQ (l : List UInt8) (W : World) (E : Ending) (w' : World) : Prop :=
 Below W.heap.size W w' ∧ (symR l = none ∧ E = pwrong ∨ ∃ y, symR l = some y ∧ E = .returned (.agg #[.string y.f0, .int .i64 y.f1]))
set_option maxHeartbeats 4000000 in
set_option maxRecDepth 100000 in
theorem symbol_calls (s : ByteArray) (W : World) (hs : s.size ≤ 70000) (hm : MX W) : Calls Tryz.prog 57 #[.string s] W (SymQ s.data.toList W) := by
 have HB := mk0 (aA_ (Below.refl W.heap.size W) (.cells #[.string ⟨#[]⟩, .int .i64 0] 71))
 have HX := mk0 (aS_ W (.cells #[.string ⟨#[]⟩, .int .i64 0] 71))
 have HC := mk0 (cut_calls s ⟨#[32]⟩ (W.alloc (.cells #[.string ⟨#[]⟩, .int .i64 0] 71)) hs (hm.below (aA_ (Below.refl W.heap.size W) (.cells #[.string ⟨#[]⟩, .int .i64 0] 71))))
 rw [show (ByteArray.mk #[32]).data.toList = [32] from rfl] at HC
 have HSR := mk0 (show symR s.data.toList = (if (Lib.cut s.data.toList [32]).2.2 = true ∧ numOk (Lib.cut s.data.toList [32]).2.1 = true ∧ nameB ⟨(Lib.cut s.data.toList [32]).1.toArray⟩ = true then some ⟨⟨(Lib.cut s.data.toList [32]).1.toArray⟩, num0V (Lib.cut s.data.toList [32]).2.1⟩ else none) from rfl)
 have hcs := (cut_size s.data.toList [32]).2
 rw [← Lib.size_eq] at hcs
 have HCS := mk0 (show (ByteArray.mk (Lib.cut s.data.toList [32]).2.1.toArray).size ≤ 70000 by show (Lib.cut s.data.toList [32]).2.1.toArray.size ≤ 70000; rw [List.size_toArray]; omega)
 generalize (Lib.cut s.data.toList [32]).2.2 = ok at *
 generalize (Lib.cut s.data.toList [32]).2.1 = l2 at *
 generalize hn1 : (ByteArray.mk (Lib.cut s.data.toList [32]).1.toArray) = n1 at *
 clear hs hm hcs
 go_enter Tryz.func57, Tryz.ntmps57
 go_upto_region 1 with (fail)
 generalize W.alloc (.cells #[.string ⟨#[]⟩, .int .i64 0] 71) = W1 at *
 go_wp2_with fail
 refine (HC.out).mono ?_
 rintro E w2 ⟨rfl, hb⟩
 have HB2 := mk0 (aL_ HB.out (HB.out).size hb)
 have HX2 := mk0 (aJ_ HX.out hb)
 have HN := mk0 (fun (W1 : World) => number0_calls ⟨l2.toArray⟩ W1 HCS.out)
 rw [show (ByteArray.mk l2.toArray).data.toList = l2 from rfl] at HN
 clear hb HB HX HC
 go_wp2_with fail
 refine (HN.out _).mono ?_
 rintro E w3 ⟨rfl, hb⟩
 have HB3 := mk0 (aL_ HB2.out (HB2.out).size hb)
 have HX3 := mk0 (aJ_ HX2.out hb)
 clear hb HB2 HX2 HN
 cases q1 : ok with
 | false =>
  have HV := mk0 (show symR s.data.toList = none by rw [HSR.out, if_neg (fun h => by rw [q1] at h; exact l16_ h.1)])
  clear q1
  go_wp2
  exact ⟨rfl, HB3.out, .inl ⟨HV.out, rfl⟩⟩
 | true =>
  cases q2 : numOk l2 with
  | false =>
   have HV := mk0 (show symR s.data.toList = none by rw [HSR.out, if_neg (fun h => by rw [q2] at h; exact l16_ h.2.1)])
   clear q2
   go_wp2
   exact ⟨rfl, HB3.out, .inl ⟨HV.out, rfl⟩⟩
  | true =>
   have HNM := mk0 (name_calls n1 w3)
   have HQ2 := mk0 q2
   have HQ1 := mk0 q1
   clear q2 q1
   go_wp2_with fail
   refine (HNM.out).mono ?_
   rintro E w4 ⟨rfl, hb⟩
   have HB4 := mk0 (aL_ HB3.out (HB3.out).size hb)
   have HX4 := mk0 (aJ_ HX3.out hb)
   clear hb HB3 HX3 HNM
   cases q3 : nameB n1 with
   | false =>
    have HV := mk0 (show symR s.data.toList = none by rw [HSR.out, if_neg (fun h => by rw [q3] at h; exact l16_ h.2.2)])
    clear q3
    go_wp2
    exact ⟨rfl, HB4.out, .inl ⟨HV.out, rfl⟩⟩
   | true =>
    have HV := mk0 (show symR s.data.toList = some ⟨n1, num0V l2⟩ by rw [HSR.out, if_pos ⟨HQ1.out, HQ2.out, q3⟩])
    clear q3
    generalize num0V l2 = nv at *
    have c0 : w4.cell? ⟨W.heap.size, 0, none⟩ = some (.string ⟨#[]⟩) := (aC_ HX4.out 0).trans rfl
    have c1 : w4.cell? ⟨W.heap.size, 1, none⟩ = some (.int .i64 0) := (aC_ HX4.out 1).trans rfl
    have f0 : w4.frozen? ⟨W.heap.size, 0, none⟩ = false := aF_ HX4.out 0
    have f1 : w4.frozen? ⟨W.heap.size, 1, none⟩ = false := aF_ HX4.out 1
    have HS0 := mk0 (blk_set (blk_set HX4.out 0 (.string n1)) 1 (.int .i64 nv))
    have HB5 := mk0 (((HB4.out).setCell (p := ⟨W.heap.size, 0, none⟩) (Nat.le_refl _) (.string n1)).setCell (p := ⟨W.heap.size, 1, none⟩) (Nat.le_refl _) (.int .i64 nv))
    go_wp2
    refine bodyPost_ret (results_single rfl (.cell W.heap.size 71 #[.string n1, .int .i64 nv] (0, 0) _ rfl HS0.out Tryz.underlying71 rfl (by kernel_rfl) .nil)) rfl ?_
    exact ⟨HB5.out, .inr ⟨⟨n1, nv⟩, HV.out, rfl⟩⟩
def pbadS : Ending := .panicked [{ v := .iface 138 (.agg #[]), recovered := false }]
def SrtQ (b : Nat) (s : ByteArray) (l : List UInt8) (W : World) (E : Ending) (w' : World) : Prop :=
 KR b W w' ∧ (srtR [] l = none ∧ E = pbadS ∨ ∃ t r v, srtR [] l = some (t, r) ∧ E = .returned (.agg #[v]) ∧ Kd.R k47 47 w' W.heap.size (fun k => W.heap.size ≤ k) v t.f0 ∧ RD b s r w')
structure FS (b : Nat) (s : ByteArray) (W W1 : World) (l : List UInt8) (acc : List S47) (A : Option Addr) (c : Nat) : Prop where
 rd : RD b s l W1
 h2 : W1.heap[W.heap.size]? = some (.cells #[.slice none 0 0] 47 (0, 0))
 h3 : W1.heap[W.heap.size + 1]? = some (.cells #[.slice A acc.length c] 47 (0, 0))
 row : Kd.R k47 47 W1 W.heap.size (fun k => W.heap.size + 2 ≤ k) (.slice A acc.length c) acc
 kr : KR b W W1
 lt : b < W.heap.size
 hlt : W.heap.size + 2 ≤ W1.heap.size
section
variable {b : Nat} {s : ByteArray} {W W1 W2 : World} {l l2 : List UInt8} {acc : List S47} {A : Option Addr} {c : Nat}
theorem FS.call (h : FS b s W W1 l acc A c) (hr : RD b s l2 W2) (hk : KR b W1 W2) : FS b s W W2 l2 acc A c :=
 ⟨hr, hk.blk (by have := h.lt; omega) h.h2, hk.blk (by have := h.lt; omega) h.h3, hk.rr h.row (fun k hk => by have := h.lt; omega), h.kr.trans hk, h.lt, Nat.le_trans h.hlt hk.keep.1⟩
theorem FS.below (h : FS b s W W1 l acc A c) (hb : Below W1.heap.size W1 W2) : FS b s W W2 l acc A c :=
 h.call (h.rd.keep hb) (KR.below (by have := h.lt; have := h.hlt; omega) hb)
theorem FS.push {a : S47} {A2 : Option Addr} {c2 : Nat} (h : FS b s W W1 l acc A c) (ho : Kd.R k47 47 W2 W.heap.size (fun k => W.heap.size + 2 ≤ k) (.slice A2 (acc ++ [a]).length c2) (acc ++ [a])) (hb : Below W.heap.size W1 W2) (hg : W1.grownBy W2 (Value.slice A acc.length c).ownBlock) :
  FS b s W (W2.setCell ⟨W.heap.size + 1, 0, none⟩ (.slice A2 (acc.length + 1) c2)) l (acc ++ [a]) A2 c2 := by
 rw [show acc.length + 1 = (acc ++ [a]).length from by simp]
 have hrow : ∀ k, (Value.slice A acc.length c).ownBlock = some k → W.heap.size + 2 ≤ k := h.row.1
 have hlt := h.lt
 have h2 : W2.heap[W.heap.size]? = some (.cells #[.slice none 0 0] 47 (0, 0)) := aU_ h.h2 hg (fun e => by have := hrow _ e.symm; omega)
 have h3 : W2.heap[W.heap.size + 1]? = some (.cells #[.slice A acc.length c] 47 (0, 0)) := aU_ h.h3 hg (fun e => by have := hrow _ e.symm; omega)
 have h4 := aU_ h.rd.blk hg (fun e => by have := hrow _ e.symm; omega)
 refine ⟨⟨blk_far h4 (by show b ≠ W.heap.size + 1; omega) _, h.rd.suf⟩, blk_far h2 (by show W.heap.size ≠ W.heap.size + 1; omega) _, blk_set h3 0 _, Kd.R_far ho (fun k hk => by show k ≠ W.heap.size + 1; omega) _, ⟨?_, ?_, ?_⟩, hlt, ?_⟩
 ·exact (Below.trans h.kr.lo (Below.mono hb (Nat.le_of_lt hlt))).setCell (p := ⟨W.heap.size + 1, 0, none⟩) (by show b ≤ W.heap.size + 1; omega) _
 ·have := Nat.le_trans h.kr.keep.1 hb.size
  simpa [World.setCell] using this
 ·intro i hi hne _
  rw [Below.heap_setCell W2 ⟨W.heap.size + 1, 0, none⟩ _ i (by show i ≠ W.heap.size + 1; omega)]
  exact (hb.block i hi).trans (h.kr.keep.2 i hi hne (by simp))
 ·have := Nat.le_trans h.hlt hb.size
  simpa [World.setCell] using this
theorem FS.cells (h : FS b s W W1 l acc A c) : (W1.cell? ⟨W.heap.size, 0, none⟩ = some (.slice none 0 0) ∧ W1.frozen? ⟨W.heap.size, 0, none⟩ = false) ∧ W1.cell? ⟨W.heap.size + 1, 0, none⟩ = some (.slice A acc.length c) ∧ W1.frozen? ⟨W.heap.size + 1, 0, none⟩ = false :=
 ⟨⟨(aC_ h.h2 0).trans rfl, aF_ h.h2 0⟩, (aC_ h.h3 0).trans rfl, aF_ h.h3 0⟩
theorem FS.len (h : FS b s W W1 l acc A c) : l.length ≤ s.size := h.rd.le
end
theorem skp_t {l p : List UInt8} (h : Lib.hasPrefix l p = true) : skp l p = l.drop p.length := by unfold skp; rw [if_pos h]
theorem skp_f {l p : List UInt8} (h : Lib.hasPrefix l p = false) : skp l p = l := by unfold skp; rw [h]; rfl
set_option maxHeartbeats 8000000 in
set_option maxRecDepth 100000 in
theorem sort_calls (b : Nat) (s : ByteArray) (hs : s.size ≤ 70000) (N : Nat) : ∀ (l : List UInt8) (W : World), l.length < N → RD b s l W → Calls Tryz.prog 103 #[.pointer (some ⟨b, 0, none⟩)] W (SrtQ b s l W) := by
 induction N with
 | zero => intro l W h; omega
 | succ N ih =>
  intro l W hN hRD
  have HS := mk0 hs
  have IH := mk0 ih
  have HN := mk0 hN
  have hlt := blk_lt hRD.blk
  have HF := mk0 (FS.mk (s := s) (acc := []) (A := none) (c := 0) (hRD.keep (aA_ (aA_ (Below.refl W.heap.size W) (.cells #[.slice none 0 0] 47)) (.cells #[.slice none 0 0] 47))) (aE_ (aS_ W _) _) (blk_at2 W (.cells #[.slice none 0 0] 47) (.cells #[.slice none 0 0] 47)) (Kd.R_nil _ _ _ _ _) (KR.below (Nat.le_of_lt hlt) (aA_ (aA_ (Below.refl W.heap.size W) (.cells #[.slice none 0 0] 47)) (.cells #[.slice none 0 0] 47))) hlt (by simp))
  have HT := mk0 (fun (word : ByteArray) (l1 : List UInt8) (W1 : World) (h1 : RD b s l1 W1) (h2 : word.size ≤ 10) => take_calls b s word l1 W1 h1 hs h2)
  clear hs ih hN hRD hlt
  go_enter Tryz.func103, Tryz.ntmps103
  go_upto_region 2 with (fail)
  generalize ((W.alloc (.cells #[.slice none 0 0] 47)).alloc (.cells #[.slice none 0 0] 47)) = W1 at *
  go_loopg [] l.length (fun gg wi => ∃ (acc : List S47) (l1 : List UInt8) (A : Option Addr) (c : Nat), l1.length ≤ gg ∧ Aside0 (srtR [] l = srtR acc l1) ∧ Aside0 (acc.length + l1.length ≤ s.size) ∧ Aside0 (l1.length ≤ l.length) ∧ Aside0 (FS b s W wi l1 acc A c))
  case atStart => exact ⟨[], l, none, 0, Nat.le_refl _, ⟨rfl⟩, ⟨by have := (HF.out).len; simpa using this⟩, ⟨Nat.le_refl _⟩, HF⟩
  case round =>
   clear HF
   obtain ⟨acc, l1, A, c, hgg, HE, HL, HLL, HF⟩ := hrel
   have H1 := mk0 (HT.out ⟨#[40]⟩ l1 wr (HF.out).rd (by decide))
   rw [show (⟨#[40]⟩ : ByteArray).data.toList = [40] from rfl] at H1
   go_wp2_with fail
   refine (H1.out).mono ?_
   rintro E w2 ⟨rfl, hr, hk⟩
   have HF2 := mk0 ((HF.out).call hr hk)
   clear hr hk HF H1
   cases q : Lib.hasPrefix l1 [40] with
   | true =>
    rw [skp_t q] at HF2
    have HO := mk0 (srtR_open (acc := acc) q)
    have HPL := mk0 (hp_len q)
    have HR := mk0 (IH.out (l1.drop 1) w2 (by have := HN.out; have := HLL.out; have := HPL.out; rw [l9_]; simp only [l8_, List.length_nil] at this; omega) (HF2.out).rd)
    have HLT2 := mk0 (show b < w2.heap.size by have := (HF2.out).lt; have := (HF2.out).hlt; omega)
    clear q
    go_wp2_with fail
    refine (HR.out).mono ?_
    rintro E w3 ⟨hk, hE⟩
    rcases hE with ⟨hn, rfl⟩ | ⟨t, r, v, hv, rfl, hR, hr⟩
    ·have HK := mk0 ((HF2.out).kr.trans hk)
     have HN2 := mk0 hn
     clear hk hn
     unfold pbadS
     go_wp2
     exact ⟨rfl, HK.out, .inl ⟨by rw [HE.out, HO.out, HN2.out]; rfl, rfl⟩⟩
    ·have HV := mk0 hv
     have HLR := mk0 (srtR_less hv)
     obtain ⟨A3, c3, rfl⟩ := Kd.R_slice hR
     have HF3 := mk0 ((HF2.out).call hr hk)
     have HR3 := mk0 hR
     have HNW := mk0 (Kd.R_new' hR (Kd.R_lt (HF2.out).row))
     have HSZ := mk0 ((HF2.out).hlt)
     clear hr hk hR hv
     go_upto_region 4 with (fail)
     have HX4 := mk0 (aS_ w3 (.cells #[.slice A3 t.f0.length c3] 47))
     have HF4 := mk0 ((HF3.out).below (aA_ (Below.refl w3.heap.size w3) (.cells #[.slice A3 t.f0.length c3] 47)))
     have HR4 := mk0 (Kd.R_below HNW.out (aA_ (Below.refl w3.heap.size w3) (.cells #[.slice A3 t.f0.length c3] 47)))
     have HB4 := mk0 (show w3.heap.size ≠ b from by have := (HF3.out).lt; have := (HF3.out).hlt; omega)
     clear HF3 HNW HR3
     generalize (w3.alloc (.cells #[.slice A3 t.f0.length c3] 47)) = w4 at *
     generalize w3.heap.size = b4 at *
     have p4 : w4.cell? ⟨b4, 0, none⟩ = some (.slice A3 t.f0.length c3) := (aC_ HX4.out 0).trans rfl
     by_cases hz : t.f0.length = 0
     ·have HBAD := mk0 (show srtR acc l1 = none by rw [HO.out, HV.out]; simp only [l23_]; rw [if_pos hz])
      have HK := mk0 (HF4.out).kr
      go_wp2
      exact ⟨rfl, HK.out, .inl ⟨by rw [HE.out, HBAD.out], rfl⟩⟩
     ·have HZ0 := mk0 hz
      have H5 := mk0 (HT.out ⟨#[41, 32, 62, 32]⟩ r w4 (HF4.out).rd (by decide))
      rw [show (⟨#[41, 32, 62, 32]⟩ : ByteArray).data.toList = [41, 32, 62, 32] from rfl] at H5
      go_wp2_with fail
      refine (H5.out).mono ?_
      rintro E w5 ⟨rfl, hr, hk⟩
      have HF5 := mk0 ((HF4.out).call hr hk)
      have HX5 := mk0 (hk.blk HB4.out HX4.out)
      have HR5 := mk0 (hk.rr HR4.out (fun k hk2 => by have := HLT2.out; omega))
      clear hr hk HF4 H5 p4 HX4 HR4
      have p5 : w5.cell? ⟨b4, 0, none⟩ = some (.slice A3 t.f0.length c3) := (aC_ HX5.out 0).trans rfl
      cases q2 : Lib.hasPrefix r [41, 32, 62, 32] with
      | false =>
       have HBAD := mk0 (show srtR acc l1 = none by rw [HO.out, HV.out]; simp only [l23_]; rw [if_neg HZ0.out, q2]; rfl)
       have HK := mk0 (HF5.out).kr
       clear q2
       go_wp2
       exact ⟨rfl, HK.out, .inl ⟨by rw [HE.out, HBAD.out], rfl⟩⟩
      | true =>
       rw [skp_t q2] at HF5
       have HGO := mk0 (show srtR acc l1 = srtR (acc ++ [t]) (r.drop 4) by rw [HO.out, HV.out]; simp only [l23_]; rw [if_neg HZ0.out, q2]; rfl)
       have HPL2 := mk0 (hp_len q2)
       clear q2
       obtain ⟨⟨c20, f20⟩, c30, f30⟩ := (HF5.out).cells
       have HZ := mk0 ((HF5.out).hlt)
       have HR6 := mk0 (Kd.R_lower (base' := W.heap.size) (Kd.R_mono (ok' := fun k => (W.heap.size + 2 ≤ k ∧ some k ≠ (Value.slice A acc.length c).ownBlock)) HR5.out (fun k hk => ⟨by have := HSZ.out; omega, hk.2⟩)) (by have := HSZ.out; omega))
       go_wp2_with ((with_reducible refine gate_builtin (b := .append) (xs := #[.tmp 21, .tmp 23]) rfl ?_); at_builtin; refine Kd.R_append k47 (w0 := w5) W.heap.size rfl (.tmp 21) (.tmp 23) 43 47 (.agg #[.slice none 0 0]) 24 rfl Tryz.underlying43 Q.info47 rfl (show 0 < 1 by decide) (by decide) (.slice A acc.length c) acc t [.slice A3 t.f0.length c3] (fun k => W.heap.size + 2 ≤ k) (fun k => W.heap.size + 2 ≤ k ∧ some k ≠ (Value.slice A acc.length c).ownBlock) rfl rfl (Q.k47_mkM _ _ _ t HR6.out) (fun _ hk => hk) (fun k hk => Nat.le_trans (HZ.out) hk) (HF5.out).row (Below.refl _ _) (Nat.le_trans (by omega) HZ.out) (by have := HL.out; have := HS.out; omega) ?_; intro v5 w6 ho5 hb5 hg5 hat5; (obtain ⟨A9, c9, rfl⟩ := Kd.R_slice ho5); have HF6 := mk0 ((HF5.out).push ho5 hb5 hg5); have h6 := (aU_ (HF5.out).h3 hg5 (fun e => by have := (HF5.out).row.1 _ e.symm; omega)); have c6 : w6.cell? ⟨W.heap.size + 1, 0, none⟩ = some (.slice A acc.length c) := (aC_ h6 0).trans rfl; have f6 : w6.frozen? ⟨W.heap.size + 1, 0, none⟩ = false := aF_ h6 0; clear h6; clear ho5 hb5 hg5 hat5)
       have HLN := mk0 (show (r.drop 4).length + 6 ≤ l1.length from by
        have h1 := HLR.out
        have h2 := HPL2.out
        have h3 := HPL.out
        rw [l9_] at h1 ⊢
        simp only [l8_, List.length_nil] at h2 h3
        omega)
       go_roundg (r.drop 4).length
       case measure => have := HLN.out; omega
       case rel => exact ⟨acc ++ [t], r.drop 4, A9, c9, Nat.le_refl _, ⟨by rw [HE.out, HGO.out]⟩, ⟨by have := HL.out; have := HLN.out; rw [l7_, l10_]; omega⟩, ⟨by have := HLL.out; have := HLN.out; omega⟩, HF6⟩
   | false =>
    rw [skp_f q] at HF2
    have H5 := mk0 (HT.out ⟨#[111]⟩ l1 w2 (HF2.out).rd (by decide))
    rw [show (⟨#[111]⟩ : ByteArray).data.toList = [111] from rfl] at H5
    go_wp2_with fail
    refine (H5.out).mono ?_
    rintro E w3 ⟨rfl, hr, hk⟩
    have HF3 := mk0 ((HF2.out).call hr hk)
    clear hr hk HF2 H5
    cases q2 : Lib.hasPrefix l1 [111] with
    | false =>
     have HBAD := mk0 (srtR_none (acc := acc) q q2)
     have HK := mk0 (HF3.out).kr
     clear q q2
     go_wp2
     exact ⟨rfl, HK.out, .inl ⟨by rw [HE.out, HBAD.out], rfl⟩⟩
    | true =>
     rw [skp_t q2] at HF3
     have H6 := mk0 (HT.out ⟨#[32, 62, 32]⟩ (l1.drop 1) w3 (HF3.out).rd (by decide))
     rw [show (⟨#[32, 62, 32]⟩ : ByteArray).data.toList = [32, 62, 32] from rfl] at H6
     have HPL := mk0 (hp_len q2)
     go_wp2_with fail
     refine (H6.out).mono ?_
     rintro E w4 ⟨rfl, hr, hk⟩
     have HF4 := mk0 ((HF3.out).call hr hk)
     clear hr hk HF3 H6
     cases q3 : Lib.hasPrefix (l1.drop 1) [32, 62, 32] with
     | false =>
      have HGO := mk0 (srtR_last (acc := acc) q q2 q3)
      have HF5 := HF4
      rw [skp_f q3] at HF5
      obtain ⟨⟨c20, f20⟩, c30, f30⟩ := (HF4.out).cells
      clear q q2 q3
      go_wp2
      refine bodyPost_ret (results_single rfl (.cell W.heap.size 47 #[.slice A acc.length c] (0, 0) _ rfl (blk_set (HF4.out).h2 0 _) Tryz.underlying47 rfl (by kernel_rfl) .nil)) rfl ?_
      have hlt := (HF5.out).lt
      refine ⟨⟨(HF5.out).kr.lo.setCell (p := ⟨W.heap.size, 0, none⟩) (Nat.le_of_lt hlt) _, ?_, ?_⟩, .inr ⟨⟨acc⟩, l1.drop 1, .slice A acc.length c, by rw [HE.out, HGO.out], rfl, ?_, ⟨blk_far (HF5.out).rd.blk (by show b ≠ W.heap.size; omega) _, (HF5.out).rd.suf⟩⟩⟩
      ·have := (HF5.out).kr.keep.1
       simpa [World.setCell] using this
      ·intro i hi hne _
       rw [Below.heap_setCell _ ⟨W.heap.size, 0, none⟩ _ i (by show i ≠ W.heap.size; omega)]
       exact (HF5.out).kr.keep.2 i hi hne (by simp)
      ·exact Kd.R_mono (Kd.R_far (HF5.out).row (fun k hk => by show k ≠ W.heap.size; omega) _) (fun k hk => by omega)
     | true =>
      rw [skp_t q3] at HF4
      have HGO := mk0 (srtR_more (acc := acc) q q2 q3)
      have HPL2 := mk0 (hp_len q3)
      clear q q2 q3
      obtain ⟨⟨c20, f20⟩, c30, f30⟩ := (HF4.out).cells
      have HZ := mk0 ((HF4.out).hlt)
      go_wp2_with ((with_reducible refine gate_builtin (b := .append) (xs := #[.tmp 36, .tmp 38]) rfl ?_); at_builtin; refine Kd.R_append k47 (w0 := w4) W.heap.size rfl (.tmp 36) (.tmp 38) 43 47 (.agg #[.slice none 0 0]) 24 rfl Tryz.underlying43 Q.info47 rfl (show 0 < 1 by decide) (by decide) (.slice A acc.length c) acc (⟨[]⟩ : S47) [.slice none 0 0] (fun k => W.heap.size + 2 ≤ k) (fun k => W.heap.size + 2 ≤ k ∧ some k ≠ (Value.slice A acc.length c).ownBlock) rfl rfl (Q.k47_mkM _ _ _ (⟨[]⟩ : S47) (Kd.R_nil _ _ _ _ _)) (fun _ hk => hk) (fun k hk => Nat.le_trans (HZ.out) hk) (HF4.out).row (Below.refl _ _) (Nat.le_trans (by omega) HZ.out) (by have := HL.out; have := HS.out; omega) ?_; intro v5 w6 ho5 hb5 hg5 hat5; (obtain ⟨A9, c9, rfl⟩ := Kd.R_slice ho5); have HF6 := mk0 ((HF4.out).push ho5 hb5 hg5); have h6 := (aU_ (HF4.out).h3 hg5 (fun e => by have := (HF4.out).row.1 _ e.symm; omega)); have c6 : w6.cell? ⟨W.heap.size + 1, 0, none⟩ = some (.slice A acc.length c) := (aC_ h6 0).trans rfl; have f6 : w6.frozen? ⟨W.heap.size + 1, 0, none⟩ = false := aF_ h6 0; clear h6; clear ho5 hb5 hg5 hat5)
      have HLN := mk0 (show ((l1.drop 1).drop 3).length + 4 ≤ l1.length from by
       have h2 := HPL2.out
       have h3 := HPL.out
       rw [l9_] at h2
       rw [l9_, l9_]
       simp only [l8_, List.length_nil] at h2 h3
       omega)
      go_roundg ((l1.drop 1).drop 3).length
      case measure => have := HLN.out; omega
      case rel => exact ⟨acc ++ [(⟨[]⟩ : S47)], (l1.drop 1).drop 3, A9, c9, Nat.le_refl _, ⟨by rw [HE.out, HGO.out]⟩, ⟨by have := HL.out; have := HLN.out; rw [l7_, l10_]; omega⟩, ⟨by have := HLL.out; have := HLN.out; omega⟩, HF6⟩
theorem sidle_calls (p q : Addr) (w : World) :
  CallsD Tryz.prog 102 #[.pointer (some p), .pointer (some q)] .returning w fun e u' w' => e = .returned (.tuple #[]) ∧ u' = .returning ∧ w' = w := by
 refine callsD_of_wpS Tryz.func102 rfl fun c₀ cs hu => ?_
 apply wpS_seq
 apply wpS_region
 simp [wpOpsS, go_sem, recoverD, hu, Tryz.ntmps102, Exit.thenS]
 apply wpS_seq
 apply wpS_region
 simp [wpOpsS, go_sem, Exit.thenS]
 refine wpS_cond (t := false) (by simp [Act.eval, Array.replicate]) ?_
 simp only [Bool.false_eq_true, if_false]
 refine wpS_of_wp (wp_skip ?_)
 cases c₀
 simp_all [bodyPostS, results, Tryz.results102]
set_option maxHeartbeats 4000000 in
set_option maxRecDepth 100000 in
theorem sbad_calls (a : Nat) (x e : Value) (w : World) (h0 : w.heap[a]? = some (.cells #[x] 47 (0, 0))) (h1 : w.heap[a + 1]? = some (.cells #[e] 26 (0, 0))) :
  CallsD Tryz.prog 102 #[.pointer (some ⟨a, 0, none⟩), .pointer (some ⟨a + 1, 0, none⟩)] (.panicking [{ v := .iface 138 (.agg #[]), recovered := false }]) w fun e u' w' =>
   e = .returned (.tuple #[]) ∧ u' = .panicking [{ v := .iface 138 (.agg #[]), recovered := true }] ∧ w'.heap[a]? = some (.cells #[.slice none 0 0] 47 (0, 0)) ∧ w'.heap[a + 1]? = some (.cells #[.int .i64 4] 26 (0, 0)) ∧ Below a w w' := by
 refine callsD_of_wpS Tryz.func102 rfl fun c₀ cs hu => ?_
 apply wpS_seq
 apply wpS_region
 simp [wpOpsS, go_sem, recoverD, hu, Tryz.ntmps102, Exit.thenS]
 refine wpS_of_wp ?_
 rw [show (#[Value.pointer (some ⟨a, 0, none⟩), Value.pointer (some ⟨a + 1, 0, none⟩)] ++ ((Array.replicate 15 undef).setIfInBounds 3 (Value.iface 138 (Value.agg #[]))).setIfInBounds 0 (Value.iface 138 (Value.agg #[]))) = #[Value.pointer (some ⟨a, 0, none⟩), Value.pointer (some ⟨a + 1, 0, none⟩), Value.iface 138 (Value.agg #[]), undef, undef, Value.iface 138 (Value.agg #[]), undef, undef, undef, undef, undef, undef, undef, undef, undef, undef, undef] from rfl]
 have hta : ∀ W : World, (Instr.typeAssert (Value.iface 138 (Value.agg #[])) 20 138 true).run Tryz.prog W = .ok (.tuple #[.agg #[], .bool true]) W := fun W => by kernel_rfl
 have HB := mk0 (aA_ (Below.refl w.heap.size w) (.cells #[] 138))
 have HQ0 := mk0 hu
 have ha : a < w.heap.size := (Array.getElem?_eq_some_iff.1 h0).1
 generalize hQ : bodyPostS Tryz.prog Tryz.f102 c₀ cs _ = QQ
 have HQ := mk0 hQ
 clear hQ
 go_upto_region 5 with (fail)
 have H0 := mk0 (aJ_ h0 HB.out)
 have H1 := mk0 (aJ_ h1 HB.out)
 clear h0 h1
 generalize w.alloc (.cells #[] 138) = W2 at *
 have c0 : W2.cell? ⟨a, 0, none⟩ = some x := (aC_ H0.out 0).trans rfl
 have c3 : W2.cell? ⟨a + 1, 0, none⟩ = some e := (aC_ H1.out 0).trans rfl
 have f0 : W2.frozen? ⟨a, 0, none⟩ = false := aF_ H0.out 0
 have f3 : W2.frozen? ⟨a + 1, 0, none⟩ = false := aF_ H1.out 0
 go_wp2
 rw [← HQ.out]
 have hB := Below.mono HB.out (show a ≤ w.heap.size from Nat.le_of_lt ha)
 clear c0 c3 f0 f3
 refine ⟨rfl, _, rfl, _, results_none rfl _ _ _, rfl, rfl, ?_, ?_, ?_⟩
 ·exact blk_far (blk_set H0.out 0 _) (by show a ≠ a + 1; omega) _
 ·exact blk_set (blk_far H1.out (by show a + 1 ≠ a; omega) _) 0 _
 ·exact (hB.setCell (p := ⟨a, 0, none⟩) (Nat.le_refl a) _).setCell (p := ⟨a + 1, 0, none⟩) (Nat.le_succ a) _
def getSV (t : ByteArray) : Option S47 := (srtR [] t.data.toList).bind fun p => if p.2 = [] then some p.1 else none
def getSR (t : ByteArray) : Int × S47 := if 65536 < t.size then (3, ⟨[]⟩) else match getSV t with | none => (4, ⟨[]⟩) | some s => if schkV s = 0 then (0, s) else (6, ⟨[]⟩)
def GetSE (t : ByteArray) (w : World) (E : Ending) (w' : World) : Prop :=
 ∃ A c, E = .returned (.tuple #[.agg #[.slice A (getSR t).2.f0.length c], .int .i64 (getSR t).1]) ∧ Kd.R k47 47 w' w.heap.size (fun k => w.heap.size ≤ k) (.slice A (getSR t).2.f0.length c) (getSR t).2.f0 ∧ Below w.heap.size w w'
structure GS (w W : World) (x : Value) : Prop where
 hb : Below w.heap.size w W
 ha : W.heap[w.heap.size]? = some (.cells #[x] 47 (0, 0))
 he : W.heap[w.heap.size + 1]? = some (.cells #[.int .i64 0] 26 (0, 0))
theorem GS.start (w : World) : GS w ((w.alloc (.cells #[.slice none 0 0] 47)).alloc (.cells #[.int .i64 0] 26)) (.slice none 0 0) :=
 ⟨aA_ (aA_ (Below.refl _ _) _) _, aE_ (aS_ w _) _, blk_at2 w _ _⟩
theorem GS.below {w W W1 : World} {x : Value} (h : GS w W x) (hb : Below W.heap.size W W1) : GS w W1 x := ⟨aL_ h.hb h.hb.size hb, aJ_ h.ha hb, aJ_ h.he hb⟩
theorem GS.call {w W W1 : World} {x : Value} {b : Nat} (h : GS w W x) (hk : KR b W W1) (hb : w.heap.size + 2 ≤ b) : GS w W1 x := ⟨Below.trans h.hb (Below.mono hk.lo (by omega)), hk.blk (by omega) h.ha, hk.blk (by omega) h.he⟩
theorem GS.cells {w W : World} {x : Value} (h : GS w W x) : (W.cell? ⟨w.heap.size, 0, none⟩ = some x ∧ W.frozen? ⟨w.heap.size, 0, none⟩ = false) ∧ W.cell? ⟨w.heap.size + 1, 0, none⟩ = some (.int .i64 0) ∧ W.frozen? ⟨w.heap.size + 1, 0, none⟩ = false :=
 ⟨⟨(aC_ h.ha 0).trans rfl, aF_ h.ha 0⟩, (aC_ h.he 0).trans rfl, aF_ h.he 0⟩
theorem GS.set0 {w W : World} {x : Value} (h : GS w W x) (u : Value) : GS w (W.setCell ⟨w.heap.size, 0, none⟩ u) u := ⟨h.hb.setCell (p := ⟨w.heap.size, 0, none⟩) (Nat.le_refl _) _, blk_set h.ha 0 u, blk_far h.he (by show w.heap.size + 1 ≠ w.heap.size; omega) _⟩
theorem run_mkfun3 (fn : Fn) (first cap : Array Value) (w : World) : (Instr.makeFunc fn first cap).run Tryz.prog w = .ok (.func fn first cap) w := rfl
theorem getSE_zero {t : ByteArray} {w W : World} {e : Int} (h : getSR t = (e, ⟨[]⟩)) (hb : Below w.heap.size w W) : GetSE t w (.returned (.tuple #[.agg #[.slice none 0 0], .int .i64 e])) W := by
 unfold GetSE
 rw [h]
 exact ⟨none, 0, rfl, Kd.R_nil _ _ _ _ _, hb⟩
theorem gets_panic {t : ByteArray} {w W : World} {x : Value} (h : getSR t = (4, ⟨[]⟩)) (hG : GS w W x) (tm : Array Value) (h2 : tm[2]? = some (.pointer (some ⟨w.heap.size, 0, none⟩))) (h3 : tm[3]? = some (.pointer (some ⟨w.heap.size + 1, 0, none⟩))) :
  bodyPostD Tryz.prog Tryz.f59 (GetSE t w) (Exit.panic [{ v := .iface 138 (.agg #[]), recovered := false }]) { tmps := tm, defers := [{ target := .fn (.func 102) #[.pointer (some ⟨w.heap.size, 0, none⟩), .pointer (some ⟨w.heap.size + 1, 0, none⟩)], args := #[] }] } W := by
 refine leaves_cons (f := 102) (args := #[.pointer (some ⟨w.heap.size, 0, none⟩), .pointer (some ⟨w.heap.size + 1, 0, none⟩)]) (by simp) (by simp [go_sem]) ?_
 refine (sbad_calls w.heap.size x _ W hG.ha hG.he).mono ?_
 rintro e u' w'' ⟨rfl, rfl, h0, h1, hb⟩
 have k0 : w''.cell? ⟨w.heap.size, 0, none⟩ = some (.slice none 0 0) := (aC_ h0 0).trans rfl
 have k3 : w''.cell? ⟨w.heap.size + 1, 0, none⟩ = some (.int .i64 4) := (aC_ h1 0).trans rfl
 have hE := getSE_zero (w := w) (W := w'') h (Below.trans hG.hb hb)
 simp [Leaves, settle, results, Tryz.results59, go_sem, h2, h3, k0, k3]
 exact hE
theorem gets_done {t : ByteArray} {w W : World} {A : Option Addr} {c : Nat} {s : S47} {e : Int} (h : getSR t = (e, s)) (hG : Below w.heap.size w W)
  (h0 : W.heap[w.heap.size]? = some (.cells #[.slice A s.f0.length c] 47 (0, 0))) (h1 : W.heap[w.heap.size + 1]? = some (.cells #[.int .i64 e] 26 (0, 0)))
  (hr : Kd.R k47 47 W w.heap.size (fun k => w.heap.size ≤ k) (.slice A s.f0.length c) s.f0)
  (tm : Array Value) (h2 : tm[2]? = some (.pointer (some ⟨w.heap.size, 0, none⟩))) (h3 : tm[3]? = some (.pointer (some ⟨w.heap.size + 1, 0, none⟩))) :
  bodyPostD Tryz.prog Tryz.f59 (GetSE t w) Exit.ret { tmps := tm, defers := [{ target := .fn (.func 102) #[.pointer (some ⟨w.heap.size, 0, none⟩), .pointer (some ⟨w.heap.size + 1, 0, none⟩)], args := #[] }] } W := by
 refine leaves_cons (f := 102) (args := #[.pointer (some ⟨w.heap.size, 0, none⟩), .pointer (some ⟨w.heap.size + 1, 0, none⟩)]) (by simp) (by simp [go_sem]) ?_
 refine (sidle_calls _ _ W).mono ?_
 rintro e' u' w'' ⟨rfl, rfl, rfl⟩
 have k0 : w''.cell? ⟨w.heap.size, 0, none⟩ = some (.slice A s.f0.length c) := (aC_ h0 0).trans rfl
 have k3 : w''.cell? ⟨w.heap.size + 1, 0, none⟩ = some (.int .i64 e) := (aC_ h1 0).trans rfl
 have hE : GetSE t w (.returned (.tuple #[.agg #[.slice A s.f0.length c], .int .i64 e])) w'' := by
  unfold GetSE
  rw [h]
  exact ⟨A, c, rfl, hr, hG⟩
 simp [Leaves, settle, results, Tryz.results59, go_sem, h2, h3, k0, k3]
 exact hE
theorem gets_ret0 {t : ByteArray} {w W : World} {e : Int} (h : getSR t = (e, ⟨[]⟩)) (hG : Below w.heap.size w W)
  (h0 : W.heap[w.heap.size]? = some (.cells #[.slice none 0 0] 47 (0, 0))) (h1 : W.heap[w.heap.size + 1]? = some (.cells #[.int .i64 e] 26 (0, 0)))
  (tm : Array Value) (h2 : tm[2]? = some (.pointer (some ⟨w.heap.size, 0, none⟩))) (h3 : tm[3]? = some (.pointer (some ⟨w.heap.size + 1, 0, none⟩))) :
  bodyPostD Tryz.prog Tryz.f59 (GetSE t w) Exit.ret { tmps := tm, defers := [] } W := by
 have k0 : W.cell? ⟨w.heap.size, 0, none⟩ = some (.slice none 0 0) := (aC_ h0 0).trans rfl
 have k3 : W.cell? ⟨w.heap.size + 1, 0, none⟩ = some (.int .i64 e) := (aC_ h1 0).trans rfl
 have hE := getSE_zero h hG
 simp [bodyPostD, Leaves, settle, results, Tryz.results59, go_sem, h2, h3, k0, k3]
 exact hE
theorem getSR_bad {t : ByteArray} (hs : t.size ≤ 65536) (h : getSV t = none) : getSR t = (4, ⟨[]⟩) := by unfold getSR; rw [if_neg (by omega), h]
set_option maxHeartbeats 8000000 in
set_option maxRecDepth 100000 in
theorem gets_calls (t : ByteArray) (w : World) : Calls Tryz.prog 59 #[.string t] w (GetSE t w) := by
 have hmf := run_mkfun3
 have HG := mk0 (GS.start w)
 have HSZ1 := mk0 (show ((w.alloc (.cells #[.slice none 0 0] 47)).alloc (.cells #[.int .i64 0] 26)).heap.size = w.heap.size + 2 from by simp)
 go_enter_defers Tryz.func59, Tryz.ntmps59
 go_upto_region 1 with (fail)
 generalize ((w.alloc (.cells #[.slice none 0 0] 47)).alloc (.cells #[.int .i64 0] 26)) = W1 at *
 obtain ⟨⟨c0, f0⟩, c1, f1⟩ := (HG.out).cells
 cases q1 : decide ((t.size : Int) > 65536) with
 | true =>
  have HR := mk0 (show getSR t = (3, ⟨[]⟩) by unfold getSR; rw [if_pos (by have := l0_ q1; omega)])
  have HQ := mk0 ((HG.out).set0 (.slice none 0 0))
  go_wp2
  exact gets_ret0 HR.out ((HQ.out).hb.setCell (p := ⟨w.heap.size + 1, 0, none⟩) (Nat.le_succ _) _) (blk_far (HQ.out).ha (by show w.heap.size ≠ w.heap.size + 1; omega) _) (blk_set (HQ.out).he 0 _) _ rfl rfl
 | false =>
 have HSZ := mk0 (show t.size ≤ 65536 by have := of_decide_eq_false q1; omega)
 clear c0 f0 c1 f1
 go_upto_region 5 with (fail)
 have HG2 := mk0 ((HG.out).below (aA_ (Below.refl W1.heap.size W1) (.cells #[.string t, .int .i64 0] 142)))
 have HRD := mk0 (show RD W1.heap.size t t.data.toList (W1.alloc (.cells #[.string t, .int .i64 0] 142)) from by
  have e : t.size - t.data.toList.length = 0 := by rw [← Lib.size_eq]; omega
  refine ⟨?_, ?_⟩
  ·rw [e]; exact aS_ W1 _
  ·rw [e]; rfl)
 have HBB := mk0 (show w.heap.size + 2 ≤ W1.heap.size from by have := HSZ1.out; omega)
 have HLT := mk0 (show W1.heap.size < (W1.alloc (.cells #[.string t, .int .i64 0] 142)).heap.size from by simp)
 clear HG HSZ1
 generalize (W1.alloc (.cells #[.string t, .int .i64 0] 142)) = W2 at *
 generalize W1.heap.size = b at *
 have HS := mk0 (sort_calls b t (by have := HSZ.out; omega) (t.data.toList.length + 1) t.data.toList W2 (Nat.lt_succ_self _) HRD.out)
 obtain ⟨⟨c0, f0⟩, c1, f1⟩ := (HG2.out).cells
 clear c0 f0 c1 f1
 go_wp2_with fail
 refine (HS.out).mono ?_
 rintro E w3 ⟨hk, hE⟩
 have HG3 := mk0 ((HG2.out).call hk HBB.out)
 rcases hE with ⟨hn, rfl⟩ | ⟨s, r, v, hv, rfl, hR, hr⟩
 ·have HN := mk0 (show getSV t = none by unfold getSV; rw [hn]; rfl)
  clear hn hk HG2
  unfold pbadS
  go_wp2
  exact gets_panic (getSR_bad HSZ.out HN.out) HG3.out _ rfl rfl
 ·obtain ⟨A, c, rfl⟩ := Kd.R_slice hR
  have HV := mk0 hv
  have HRR := mk0 (Kd.R_lower (base' := w.heap.size) (Kd.R_mono (ok' := fun k => w.heap.size + 2 ≤ k) hR (fun k hk2 => by have := HBB.out; have := HLT.out; omega)) (by have := HBB.out; have := HLT.out; omega))
  have HRD3 := mk0 hr
  obtain ⟨⟨c0, f0⟩, c1, f1⟩ := (HG3.out).cells
  have HG4 := mk0 ((HG3.out).set0 (.slice A s.f0.length c))
  have HR4 := mk0 (Kd.R_far (p := ⟨w.heap.size, 0, none⟩) HRR.out (fun k hk2 => by show k ≠ w.heap.size; omega) (.slice A s.f0.length c))
  have HB4 := mk0 (blk_far (HRD3.out).blk (p := ⟨w.heap.size, 0, none⟩) (by show b ≠ w.heap.size; have := HBB.out; omega) (.slice A s.f0.length c))
  have HLE := mk0 (HRD3.out).le
  clear hk hv hR hr HG2 HRR HG3 HS
  go_upto_region 6 with (fail)
  generalize (w3.setCell ⟨w.heap.size, 0, none⟩ (.slice A s.f0.length c)) = w4 at *
  clear c0 f0 c1 f1
  obtain ⟨⟨c0, f0⟩, c1, f1⟩ := (HG4.out).cells
  have m0 : w4.cell? ⟨b, 0, none⟩ = some (.string t) := (aC_ HB4.out 0).trans rfl
  have m1 : w4.cell? ⟨b, 1, none⟩ = some (.int .i64 ((t.size - r.length : Nat) : Int)) := (aC_ HB4.out 1).trans rfl
  obtain ⟨p, hp⟩ : ∃ p : Nat, t.size - r.length = p := ⟨_, rfl⟩
  rw [hp] at m1
  have HP := mk0 hp
  clear hp
  by_cases h9 : p = t.size
  ·have hr0 : r = [] := by have := HP.out; have := HLE.out; exact List.eq_nil_of_length_eq_zero (by omega)
   have h99 : (p : Int) = (t.size : Int) := by rw [h9]
   have HGV := mk0 (show getSV t = some s by unfold getSV; rw [HV.out, l23_, hr0, if_pos rfl])
   have HCK := mk0 (scheck_calls s A c w4 (Kd.R_reads' HR4.out).2.2 (Kd.R_reads' HR4.out).2.1)
   clear hr0
   go_wp2_with fail
   refine (HCK.out).mono ?_
   rintro E w5 ⟨rfl, hb⟩
   have HG5 := mk0 ((HG4.out).below hb)
   have HR5 := mk0 (Kd.R_below HR4.out hb)
   clear hb HG4 HR4 HCK m0 m1 c0 f0 c1 f1
   obtain ⟨⟨c0, f0⟩, c1, f1⟩ := (HG5.out).cells
   by_cases hz : schkV s = 0
   ·have HRS := mk0 (show getSR t = (0, s) by unfold getSR; rw [if_neg (by have := HSZ.out; omega), HGV.out]; simp only; rw [if_pos hz])
    rw [hz]
    have HQ := mk0 ((HG5.out).set0 (.slice A s.f0.length c))
    have HR6 := mk0 (Kd.R_far (p := ⟨w.heap.size + 1, 0, none⟩) (Kd.R_far (p := ⟨w.heap.size, 0, none⟩) HR5.out (fun k hk2 => by show k ≠ w.heap.size; omega) (.slice A s.f0.length c)) (fun k hk2 => by show k ≠ w.heap.size + 1; omega) (.int .i64 0))
    clear hz
    go_wp2
    exact gets_done HRS.out ((HQ.out).hb.setCell (p := ⟨w.heap.size + 1, 0, none⟩) (Nat.le_succ _) _) (blk_far (HQ.out).ha (by show w.heap.size ≠ w.heap.size + 1; omega) _) (blk_set (HQ.out).he 0 _) (Kd.R_mono HR6.out (fun k hk2 => by omega)) _ rfl rfl
   ·have h6 : schkV s = 6 := by unfold schkV at hz ⊢; split at hz <;> simp_all
    have HRS := mk0 (show getSR t = (6, ⟨[]⟩) by unfold getSR; rw [if_neg (by have := HSZ.out; omega), HGV.out]; simp only; rw [if_neg hz])
    rw [h6]
    have HQ := mk0 ((HG5.out).set0 (.slice none 0 0))
    clear hz h6
    go_wp2
    exact gets_done HRS.out ((HQ.out).hb.setCell (p := ⟨w.heap.size + 1, 0, none⟩) (Nat.le_succ _) _) (blk_far (HQ.out).ha (by show w.heap.size ≠ w.heap.size + 1; omega) _) (blk_set (HQ.out).he 0 _) (Kd.R_nil _ _ _ _ _) _ rfl rfl
  ·have hr0 : ¬ r = [] := by intro e; have := HP.out; rw [e] at this; simp at this; omega
   have h99 : ¬ (p : Int) = (t.size : Int) := by omega
   have HRS := mk0 (getSR_bad HSZ.out (show getSV t = none by unfold getSV; rw [HV.out, l23_, if_neg hr0]))
   have HQ := mk0 ((HG4.out).set0 (.slice none 0 0))
   clear hr0
   go_wp2
   exact gets_done HRS.out ((HQ.out).hb.setCell (p := ⟨w.heap.size + 1, 0, none⟩) (Nat.le_succ _) _) (blk_far (HQ.out).ha (by show w.heap.size ≠ w.heap.size + 1; omega) _) (blk_set (HQ.out).he 0 _) (Kd.R_nil _ _ _ _ _) _ rfl rfl
theorem gidle_calls (p q : Addr) (w : World) :
  CallsD Tryz.prog 54 #[.pointer (some p), .pointer (some q)] .returning w fun e u' w' => e = .returned (.tuple #[]) ∧ u' = .returning ∧ w' = w := by
 refine callsD_of_wpS Tryz.func54 rfl fun c₀ cs hu => ?_
 apply wpS_seq
 apply wpS_region
 simp [wpOpsS, go_sem, recoverD, hu, Tryz.ntmps54, Exit.thenS]
 apply wpS_seq
 apply wpS_region
 simp [wpOpsS, go_sem, Exit.thenS]
 refine wpS_cond (t := false) (by simp [Act.eval, Array.replicate]) ?_
 simp only [Bool.false_eq_true, if_false]
 refine wpS_of_wp (wp_skip ?_)
 cases c₀
 simp_all [bodyPostS, results, Tryz.results54]
set_option maxHeartbeats 4000000 in
set_option maxRecDepth 100000 in
theorem gbad_calls (a : Nat) (x y e : Value) (w : World) (h0 : w.heap[a]? = some (.cells #[x, y] 25 (0, 0))) (h1 : w.heap[a + 1]? = some (.cells #[e] 26 (0, 0))) :
  CallsD Tryz.prog 54 #[.pointer (some ⟨a, 0, none⟩), .pointer (some ⟨a + 1, 0, none⟩)] (.panicking [{ v := .iface 85 (.agg #[]), recovered := false }]) w fun e u' w' =>
   e = .returned (.tuple #[]) ∧ u' = .panicking [{ v := .iface 85 (.agg #[]), recovered := true }] ∧ w'.heap[a]? = some (.cells #[.slice none 0 0, .slice none 0 0] 25 (0, 0)) ∧ w'.heap[a + 1]? = some (.cells #[.int .i64 4] 26 (0, 0)) ∧ Below a w w' := by
 refine callsD_of_wpS Tryz.func54 rfl fun c₀ cs hu => ?_
 apply wpS_seq
 apply wpS_region
 simp [wpOpsS, go_sem, recoverD, hu, Tryz.ntmps54, Exit.thenS]
 refine wpS_of_wp ?_
 rw [show (#[Value.pointer (some ⟨a, 0, none⟩), Value.pointer (some ⟨a + 1, 0, none⟩)] ++ ((Array.replicate 15 undef).setIfInBounds 3 (Value.iface 85 (Value.agg #[]))).setIfInBounds 0 (Value.iface 85 (Value.agg #[]))) = #[Value.pointer (some ⟨a, 0, none⟩), Value.pointer (some ⟨a + 1, 0, none⟩), Value.iface 85 (Value.agg #[]), undef, undef, Value.iface 85 (Value.agg #[]), undef, undef, undef, undef, undef, undef, undef, undef, undef, undef, undef] from rfl]
 have hta : ∀ W : World, (Instr.typeAssert (Value.iface 85 (Value.agg #[])) 20 85 true).run Tryz.prog W = .ok (.tuple #[.agg #[], .bool true]) W := fun W => by kernel_rfl
 have HB := mk0 (aA_ (Below.refl w.heap.size w) (.cells #[] 85))
 have HQ0 := mk0 hu
 have ha : a < w.heap.size := (Array.getElem?_eq_some_iff.1 h0).1
 generalize hQ : bodyPostS Tryz.prog Tryz.f54 c₀ cs _ = QQ
 have HQ := mk0 hQ
 clear hQ
 go_upto_region 5 with (fail)
 have H0 := mk0 (aJ_ h0 HB.out)
 have H1 := mk0 (aJ_ h1 HB.out)
 clear h0 h1
 generalize w.alloc (.cells #[] 85) = W2 at *
 have c0 : W2.cell? ⟨a, 0, none⟩ = some x := (aC_ H0.out 0).trans rfl
 have c1 : W2.cell? ⟨a, 1, none⟩ = some y := (aC_ H0.out 1).trans rfl
 have c3 : W2.cell? ⟨a + 1, 0, none⟩ = some e := (aC_ H1.out 0).trans rfl
 have f0 : W2.frozen? ⟨a, 0, none⟩ = false := aF_ H0.out 0
 have f1 : W2.frozen? ⟨a, 1, none⟩ = false := aF_ H0.out 1
 have f3 : W2.frozen? ⟨a + 1, 0, none⟩ = false := aF_ H1.out 0
 go_wp2
 rw [← HQ.out]
 have hB := Below.mono HB.out (show a ≤ w.heap.size from Nat.le_of_lt ha)
 clear c0 c1 c3 f0 f1 f3
 refine ⟨rfl, _, rfl, _, results_none rfl _ _ _, rfl, rfl, ?_, ?_, ?_⟩
 ·exact blk_far (blk_set (blk_set H0.out 0 _) 1 _) (by show a ≠ a + 1; omega) _
 ·exact blk_set (blk_far (blk_far H1.out (by show a + 1 ≠ a; omega) _) (by show a + 1 ≠ a; omega) _) 0 _
 ·exact ((hB.setCell (p := ⟨a, 0, none⟩) (Nat.le_refl a) _).setCell (p := ⟨a, 1, none⟩) (Nat.le_refl a) _).setCell (p := ⟨a + 1, 0, none⟩) (Nat.le_succ a) _
structure GSt where
 sy : List S71
 fs : List S52
 bo : List ByteArray
 large : Bool
def nmE (l : List ByteArray) : Ents := (l.zipIdx).foldl (fun es p => if mget p.1 es = none then es ++ [(p.1, (p.2 : Int))] else es) []
def pSym : List UInt8 := [115, 121, 109, 98, 111, 108, 32]
def pFun : List UInt8 := [102, 117, 110, 32]
def lnStep (g : GSt) (s : ByteArray) : Option GSt :=
 let l := s.data.toList
 if Lib.hasPrefix l pSym = true ∧ g.fs.length = 0 then (symR (Lib.trimPrefix l pSym)).map fun y => { g with sy := g.sy ++ [y] }
 else
  let a := Lib.cut (Lib.trimPrefix l pFun) [32, 58, 32]
  let b := Lib.cut a.2.1 [32, 61, 32]
  if Lib.hasPrefix l pFun = true ∧ a.2.2 = true ∧ b.2.2 = true ∧ nameB ⟨a.1.toArray⟩ = true then
   (if (getSR ⟨b.1.toArray⟩).1 = 4 then none
    else some { sy := g.sy, fs := g.fs ++ [⟨⟨a.1.toArray⟩, (getSR ⟨b.1.toArray⟩).2, ⟨0, 0, []⟩⟩], bo := g.bo ++ [⟨b.2.1.toArray⟩], large := g.large || decide ((getSR ⟨b.1.toArray⟩).1 ≠ 0) })
  else none
def lnAll : GSt → List ByteArray → Option GSt
 | g, [] => some g
 | g, s :: r => (lnStep g s).bind fun g2 => lnAll g2 r
theorem nmE_snoc (l : List ByteArray) (x : ByteArray) : nmE (l ++ [x]) = (if mget x (nmE l) = none then nmE l ++ [(x, (l.length : Int))] else nmE l) := by
 unfold nmE
 rw [List.zipIdx_append, List.foldl_append]
 simp
def chunks (s : ByteArray) (c : UInt8) : List ByteArray := Lib.splitB ⟨#[c]⟩ 0 (Lib.countB s ⟨#[c]⟩) s
def boAll (e1 e2 : Ents) : List S52 → List ByteArray → Option (List S52)
 | f :: r, b :: t => (tmR e1 e2 b.data.toList).bind fun p => if p.2 = [] then (boAll e1 e2 r t).map (⟨f.f0, f.f1, p.1⟩ :: ·) else none
 | _, _ => some []
def getV3 (t : ByteArray) : Option (List S71 × List S52 × Bool) :=
 let L := chunks t 10
 if L.getD (L.length - 1) ByteArray.empty = ByteArray.empty then
  (lnAll ⟨[], [], [], false⟩ (L.take (L.length - 1))).bind fun g => (boAll (nmE (g.sy.map (·.f0))) (nmE (g.fs.map (·.f0))) g.fs g.bo).map fun fs => (g.sy, fs, g.large)
 else none
def getR3 (t : ByteArray) : Int × List S71 × List S52 :=
 if 65536 < t.size then (3, [], []) else match getV3 t with
  | none => (4, [], [])
  | some (sy, fs, large) => if large = true ∨ schV sy fs ≠ 0 then (7, [], []) else (0, sy, fs)
def GetE3 (t : ByteArray) (w : World) (E : Ending) (w' : World) : Prop :=
 ∃ A1 c1 A2 c2, E = .returned (.tuple #[.agg #[.slice A1 (getR3 t).2.1.length c1, .slice A2 (getR3 t).2.2.length c2], .int .i64 (getR3 t).1]) ∧ Kd.C k71 w' A1 (getR3 t).2.1.length (getR3 t).2.1 ∧ (getR3 t).2.1.length ≤ c1 ∧ Kd.C k52 w' A2 (getR3 t).2.2.length (getR3 t).2.2 ∧ (getR3 t).2.2.length ≤ c2 ∧ Below w.heap.size w w'
structure GH3 (w W : World) (x y : Value) : Prop where
 hb : Below w.heap.size w W
 ha : W.heap[w.heap.size]? = some (.cells #[x, y] 25 (0, 0))
 he : W.heap[w.heap.size + 1]? = some (.cells #[.int .i64 0] 26 (0, 0))
theorem GH3.start (w : World) : GH3 w ((w.alloc (.cells #[.slice none 0 0, .slice none 0 0] 25)).alloc (.cells #[.int .i64 0] 26)) (.slice none 0 0) (.slice none 0 0) :=
 ⟨aA_ (aA_ (Below.refl _ _) _) _, aE_ (aS_ w _) _, blk_at2 w _ _⟩
theorem GH3.below {w W W1 : World} {x y : Value} (h : GH3 w W x y) (hb : Below W.heap.size W W1) : GH3 w W1 x y := ⟨aL_ h.hb h.hb.size hb, aJ_ h.ha hb, aJ_ h.he hb⟩
theorem GH3.grown {w W W1 : World} {x y : Value} (h : GH3 w W x y) {row : Option Nat} (hb : Below w.heap.size w W1) (hg : W.grownBy W1 row) (hne : ∀ k, row = some k → w.heap.size + 2 ≤ k) : GH3 w W1 x y :=
 ⟨hb, aU_ h.ha hg (fun e => by have := hne _ e.symm; omega), aU_ h.he hg (fun e => by have := hne _ e.symm; omega)⟩
theorem GH3.call {w W W1 : World} {x y : Value} {b : Nat} (h : GH3 w W x y) (hk : KR b W W1) (hb : w.heap.size + 2 ≤ b) : GH3 w W1 x y := ⟨Below.trans h.hb (Below.mono hk.lo (by omega)), hk.blk (by omega) h.ha, hk.blk (by omega) h.he⟩
theorem GH3.cells {w W : World} {x y : Value} (h : GH3 w W x y) : W.cell? ⟨w.heap.size, 0, none⟩ = some x ∧ W.cell? ⟨w.heap.size, 1, none⟩ = some y ∧ W.cell? ⟨w.heap.size + 1, 0, none⟩ = some (.int .i64 0) :=
 ⟨(aC_ h.ha 0).trans rfl, (aC_ h.ha 1).trans rfl, (aC_ h.he 0).trans rfl⟩
theorem GH3.frozen {w W : World} {x y : Value} (h : GH3 w W x y) : W.frozen? ⟨w.heap.size, 0, none⟩ = false ∧ W.frozen? ⟨w.heap.size, 1, none⟩ = false ∧ W.frozen? ⟨w.heap.size + 1, 0, none⟩ = false :=
 ⟨aF_ h.ha 0, aF_ h.ha 1, aF_ h.he 0⟩
theorem GH3.set0 {w W : World} {x y : Value} (h : GH3 w W x y) (u : Value) : GH3 w (W.setCell ⟨w.heap.size, 0, none⟩ u) u y := ⟨h.hb.setCell (p := ⟨w.heap.size, 0, none⟩) (Nat.le_refl _) _, blk_set h.ha 0 u, blk_far h.he (by show w.heap.size + 1 ≠ w.heap.size; omega) _⟩
theorem GH3.set1 {w W : World} {x y : Value} (h : GH3 w W x y) (u : Value) : GH3 w (W.setCell ⟨w.heap.size, 1, none⟩ u) x u := ⟨h.hb.setCell (p := ⟨w.heap.size, 1, none⟩) (Nat.le_refl _) _, blk_set h.ha 1 u, blk_far h.he (by show w.heap.size + 1 ≠ w.heap.size; omega) _⟩
theorem getE3_zero {t : ByteArray} {w W : World} {e : Int} (h : getR3 t = (e, [], [])) (hb : Below w.heap.size w W) : GetE3 t w (.returned (.tuple #[.agg #[.slice none 0 0, .slice none 0 0], .int .i64 e])) W := by
 unfold GetE3
 rw [h]
 exact ⟨none, 0, none, 0, rfl, ⟨rfl, by simp, fun h => absurd h (by simp)⟩, Nat.le_refl _, ⟨rfl, by simp, fun h => absurd h (by simp)⟩, Nat.le_refl _, hb⟩
theorem get3_panic {t : ByteArray} {w W : World} {x y : Value} (h : getR3 t = (4, [], [])) (hG : GH3 w W x y) (tm : Array Value) (h2 : tm[2]? = some (.pointer (some ⟨w.heap.size, 0, none⟩))) (h3 : tm[3]? = some (.pointer (some ⟨w.heap.size + 1, 0, none⟩))) :
  bodyPostD Tryz.prog Tryz.f19 (GetE3 t w) (Exit.panic [{ v := .iface 85 (.agg #[]), recovered := false }]) { tmps := tm, defers := [{ target := .fn (.func 54) #[.pointer (some ⟨w.heap.size, 0, none⟩), .pointer (some ⟨w.heap.size + 1, 0, none⟩)], args := #[] }] } W := by
 refine leaves_cons (f := 54) (args := #[.pointer (some ⟨w.heap.size, 0, none⟩), .pointer (some ⟨w.heap.size + 1, 0, none⟩)]) (by simp) (by simp [go_sem]) ?_
 refine (gbad_calls w.heap.size x y _ W hG.ha hG.he).mono ?_
 rintro e u' w'' ⟨rfl, rfl, h0, h1, hb⟩
 have k0 : w''.cell? ⟨w.heap.size, 0, none⟩ = some (.slice none 0 0) := (aC_ h0 0).trans rfl
 have k1 : w''.cell? ⟨w.heap.size, 1, none⟩ = some (.slice none 0 0) := (aC_ h0 1).trans rfl
 have k3 : w''.cell? ⟨w.heap.size + 1, 0, none⟩ = some (.int .i64 4) := (aC_ h1 0).trans rfl
 have hE := getE3_zero (w := w) (W := w'') h (Below.trans hG.hb hb)
 simp [Leaves, settle, results, Tryz.results19, go_sem, h2, h3, k0, k1, k3]
 exact hE
theorem get3_done {t : ByteArray} {w W : World} {A1 A2 : Option Addr} {c1 c2 : Nat} {sy : List S71} {fs : List S52} {e : Int} (h : getR3 t = (e, sy, fs)) (hG : Below w.heap.size w W)
  (h0 : W.heap[w.heap.size]? = some (.cells #[.slice A1 sy.length c1, .slice A2 fs.length c2] 25 (0, 0))) (h1 : W.heap[w.heap.size + 1]? = some (.cells #[.int .i64 e] 26 (0, 0)))
  (hr : Kd.C k71 W A1 sy.length sy) (hrc : sy.length ≤ c1) (hM : Kd.C k52 W A2 fs.length fs) (hMc : fs.length ≤ c2)
  (tm : Array Value) (h2 : tm[2]? = some (.pointer (some ⟨w.heap.size, 0, none⟩))) (h3 : tm[3]? = some (.pointer (some ⟨w.heap.size + 1, 0, none⟩))) :
  bodyPostD Tryz.prog Tryz.f19 (GetE3 t w) Exit.ret { tmps := tm, defers := [{ target := .fn (.func 54) #[.pointer (some ⟨w.heap.size, 0, none⟩), .pointer (some ⟨w.heap.size + 1, 0, none⟩)], args := #[] }] } W := by
 refine leaves_cons (f := 54) (args := #[.pointer (some ⟨w.heap.size, 0, none⟩), .pointer (some ⟨w.heap.size + 1, 0, none⟩)]) (by simp) (by simp [go_sem]) ?_
 refine (gidle_calls _ _ W).mono ?_
 rintro e' u' w'' ⟨rfl, rfl, rfl⟩
 have k0 : w''.cell? ⟨w.heap.size, 0, none⟩ = some (.slice A1 sy.length c1) := (aC_ h0 0).trans rfl
 have k1 : w''.cell? ⟨w.heap.size, 1, none⟩ = some (.slice A2 fs.length c2) := (aC_ h0 1).trans rfl
 have k3 : w''.cell? ⟨w.heap.size + 1, 0, none⟩ = some (.int .i64 e) := (aC_ h1 0).trans rfl
 have hE : GetE3 t w (.returned (.tuple #[.agg #[.slice A1 sy.length c1, .slice A2 fs.length c2], .int .i64 e])) w'' := by
  unfold GetE3
  rw [h]
  exact ⟨A1, _, A2, _, rfl, hr, hrc, hM, hMc, hG⟩
 simp [Leaves, settle, results, Tryz.results19, go_sem, h2, h3, k0, k1, k3]
 exact hE
theorem get3_ret0 {t : ByteArray} {w W : World} {e : Int} (h : getR3 t = (e, [], [])) (hG : Below w.heap.size w W)
  (h0 : W.heap[w.heap.size]? = some (.cells #[.slice none 0 0, .slice none 0 0] 25 (0, 0))) (h1 : W.heap[w.heap.size + 1]? = some (.cells #[.int .i64 e] 26 (0, 0)))
  (tm : Array Value) (h2 : tm[2]? = some (.pointer (some ⟨w.heap.size, 0, none⟩))) (h3 : tm[3]? = some (.pointer (some ⟨w.heap.size + 1, 0, none⟩))) :
  bodyPostD Tryz.prog Tryz.f19 (GetE3 t w) Exit.ret { tmps := tm, defers := [] } W := by
 have k0 : W.cell? ⟨w.heap.size, 0, none⟩ = some (.slice none 0 0) := (aC_ h0 0).trans rfl
 have k1 : W.cell? ⟨w.heap.size, 1, none⟩ = some (.slice none 0 0) := (aC_ h0 1).trans rfl
 have k3 : W.cell? ⟨w.heap.size + 1, 0, none⟩ = some (.int .i64 e) := (aC_ h1 0).trans rfl
 have hE := getE3_zero h hG
 simp [bodyPostD, Leaves, settle, results, Tryz.results19, go_sem, h2, h3, k0, k1, k3]
 exact hE
theorem getR3_bad {t : ByteArray} (hs : t.size ≤ 65536) (h : getV3 t = none) : getR3 t = (4, [], []) := by unfold getR3; rw [if_neg (by omega), h]
theorem chunks_len (s : ByteArray) (c : UInt8) : (Lib.splitB ⟨#[c]⟩ 0 (Lib.countB s ⟨#[c]⟩) s).length = Lib.countB s ⟨#[c]⟩ + 1 := Lib.splitB_all _ (show 1 ≤ (ByteArray.mk #[c]).size from Nat.le_refl 1) _ _ _ rfl
theorem chunks_short (s : ByteArray) (c : UInt8) : (chunks s c).length ≤ s.size + 1 := by
 have h : (chunks s c).length = Lib.countB s ⟨#[c]⟩ + 1 := chunks_len s c
 have := Lib.countB_le ⟨#[c]⟩ (Nat.le_refl 1) s.size s (Nat.le_refl _)
 omega
theorem chunks_pos (s : ByteArray) (c : UInt8) : 1 ≤ (chunks s c).length := by
 have h : (chunks s c).length = Lib.countB s ⟨#[c]⟩ + 1 := chunks_len s c
 omega
theorem split_calls (s : ByteArray) (c : UInt8) (w : World) (hs : s.size ≤ 70000) (hm : MX w) :
  Calls Tryz.prog 55 #[.string s, .string ⟨#[c]⟩] w fun E w' => E = .returned (.slice (some ⟨w.heap.size, 0, none⟩) (chunks s c).length (chunks s c).length) ∧ w' = w.alloc (.cells ((chunks s c).map Value.string).toArray 9) := by
 obtain ⟨m, hm⟩ := hm
 have h := Tryz.strings_Split s ⟨#[c]⟩ m w (by omega) hm (Nat.le_refl 1)
 rw [← chunks_len s c] at h
 exact h
theorem strs_cell {W : World} {b : Nat} {L : List ByteArray} {x : Nat × Nat} (h : W.heap[b]? = some (.cells (L.map Value.string).toArray 9 x)) {i : Nat} (hi : i < L.length) : W.cell? ⟨b, i, none⟩ = some (.string (L.getD i ByteArray.empty)) := by
 rw [Lib.cell_of_heap h]
 simp [l18_, hi]
theorem splitB_size (sep : ByteArray) : ∀ (k : Nat) (s : ByteArray), ∀ x ∈ Lib.splitB sep 0 k s, x.size ≤ s.size
 | 0, s, x, hx => by rw [Lib.splitB_zero, List.mem_singleton] at hx; rw [hx]; exact Nat.le_refl _
 | k + 1, s, x, hx => by
  unfold Lib.splitB at hx
  split at hx
  ·rw [List.mem_singleton] at hx; rw [hx]; exact Nat.le_refl _
  ·rcases List.mem_cons.1 hx with rfl | hx
   ·rw [ByteArray.size_extract]; omega
   ·have := splitB_size sep k _ x hx
    rw [ByteArray.size_extract] at this; omega
theorem chunk_size (s : ByteArray) (c : UInt8) (i : Nat) : ((chunks s c).getD i ByteArray.empty).size ≤ s.size := by
 by_cases hi : i < (chunks s c).length
 ·rw [l18_, l17_ hi]
  exact splitB_size _ _ _ _ (l11_ hi)
 ·rw [l18_, List.getElem?_eq_none (by omega)]
  exact Nat.zero_le _
structure FL (w wi : World) (L : List ByteArray) (bl B1 B2 b : Nat) (tx : List UInt8) (sy : List S71) (fs : List S52) (bo : List ByteArray) (e1 e2 : Ents) (A1 : Option Addr) (c1 : Nat) (A2 : Option Addr) (c2 : Nat) (A3 : Option Addr) (c3 : Nat) : Prop where
 g : GH3 w wi (.slice A1 sy.length c1) (.slice A2 fs.length c2)
 l : wi.heap[bl]? = some (.cells (L.map Value.string).toArray 9 (0, 0))
 rt : RT b tx (.map (some B1)) (.map (some B2)) wi
 m1 : MapIs wi B1 Value.string ki sdom e1
 m2 : MapIs wi B2 Value.string ki sdom e2
 r1 : Kd.R k71 71 wi w.heap.size (fun k => b < k) (.slice A1 sy.length c1) sy
 r2 : Kd.R k52 52 wi w.heap.size (fun k => b < k) (.slice A2 fs.length c2) fs
 r3 : Kd.R Kd.string 9 wi w.heap.size (fun k => b < k) (.slice A3 bo.length c3) bo
 n : w.heap.size + 2 ≤ bl ∧ bl < B1 ∧ B1 < B2 ∧ B2 < b
section
variable {w wi w1 : World} {L : List ByteArray} {bl B1 B2 b : Nat} {tx : List UInt8} {sy : List S71} {fs : List S52} {bo : List ByteArray} {e1 e2 : Ents} {A1 A2 A3 : Option Addr} {c1 c2 c3 : Nat}
theorem FL.below (h : FL w wi L bl B1 B2 b tx sy fs bo e1 e2 A1 c1 A2 c2 A3 c3) (hb : Below wi.heap.size wi w1) : FL w w1 L bl B1 B2 b tx sy fs bo e1 e2 A1 c1 A2 c2 A3 c3 :=
 ⟨h.g.below hb, aJ_ h.l hb, h.rt.keep hb, h.m1.below hb, h.m2.below hb, Kd.R_below h.r1 hb, Kd.R_below h.r2 hb, Kd.R_below h.r3 hb, h.n⟩
theorem FL.hb (h : FL w wi L bl B1 B2 b tx sy fs bo e1 e2 A1 c1 A2 c2 A3 c3) : Below w.heap.size w wi := h.g.hb
theorem FL.lt (h : FL w wi L bl B1 B2 b tx sy fs bo e1 e2 A1 c1 A2 c2 A3 c3) : b < wi.heap.size := blk_lt h.rt.blk
theorem FL.put1 {e3 : Ents} (h : FL w wi L bl B1 B2 b tx sy fs bo e1 e2 A1 c1 A2 c2 A3 c3) (hm : MapIs w1 B1 Value.string ki sdom e3) (hg : wi.grownBy w1 (some B1)) : FL w w1 L bl B1 B2 b tx sy fs bo e3 e2 A1 c1 A2 c2 A3 c3 := by
 have hn := h.n
 have ne : ∀ k, b < k → some k ≠ some B1 := fun k hk e => by have := l13_ e; omega
 refine ⟨h.g.grown (pw_below_grown h.g.hb _ h.g.hb.size hg (fun k hk => by cases hk; omega)) hg (fun k hk => by cases hk; omega), aU_ h.l hg (fun e => by have := l13_ e; omega), ⟨aU_ h.rt.blk hg (fun e => by have := l13_ e; omega)⟩, hm, h.m2.grown hg (fun e => by have := l13_ e; omega), Kd.R_grown h.r1 hg ne, Kd.R_grown h.r2 hg ne, Kd.R_grown h.r3 hg ne, hn⟩
theorem FL.put2 {e3 : Ents} (h : FL w wi L bl B1 B2 b tx sy fs bo e1 e2 A1 c1 A2 c2 A3 c3) (hm : MapIs w1 B2 Value.string ki sdom e3) (hg : wi.grownBy w1 (some B2)) : FL w w1 L bl B1 B2 b tx sy fs bo e1 e3 A1 c1 A2 c2 A3 c3 := by
 have hn := h.n
 have ne : ∀ k, b < k → some k ≠ some B2 := fun k hk e => by have := l13_ e; omega
 refine ⟨h.g.grown (pw_below_grown h.g.hb _ h.g.hb.size hg (fun k hk => by cases hk; omega)) hg (fun k hk => by cases hk; omega), aU_ h.l hg (fun e => by have := l13_ e; omega), ⟨aU_ h.rt.blk hg (fun e => by have := l13_ e; omega)⟩, h.m1.grown hg (fun e => by have := l13_ e; omega), hm, Kd.R_grown h.r1 hg ne, Kd.R_grown h.r2 hg ne, Kd.R_grown h.r3 hg ne, hn⟩
theorem FL.push1 {y : S71} {A : Option Addr} {c : Nat} (h : FL w wi L bl B1 B2 b tx sy fs bo e1 e2 A1 c1 A2 c2 A3 c3) (ho : Kd.R k71 71 w1 w.heap.size (fun k => b < k) (.slice A (sy ++ [y]).length c) (sy ++ [y])) (hb : Below w.heap.size w w1) (hg : wi.grownBy w1 (Value.slice A1 sy.length c1).ownBlock) :
  FL w (w1.setCell ⟨w.heap.size, 0, none⟩ (.slice A (sy.length + 1) c)) L bl B1 B2 b tx (sy ++ [y]) fs bo e1 e2 A c A2 c2 A3 c3 := by
 rw [show sy.length + 1 = (sy ++ [y]).length from by simp]
 have hn := h.n
 have hr : ∀ k, (Value.slice A1 sy.length c1).ownBlock = some k → b < k := h.r1.1
 have ne : ∀ k, b < k → k ≠ w.heap.size := fun k hk => by omega
 have nb : ∀ g, g ≤ b → some g ≠ (Value.slice A1 sy.length c1).ownBlock := fun g hg e => by have := hr _ e.symm; omega
 refine ⟨(h.g.grown hb hg (fun k hk => by have := hr k hk; omega)).set0 _, blk_far (aU_ h.l hg (nb _ (by omega))) (by show bl ≠ w.heap.size; omega) _, (RT.mk (aU_ h.rt.blk hg (nb _ (Nat.le_refl _)))).far (by omega) _ _, (h.m1.grown hg (nb _ (by omega))).far (by show B1 ≠ w.heap.size; omega) _, (h.m2.grown hg (nb _ (by omega))).far (by show B2 ≠ w.heap.size; omega) _, Kd.R_far ho ne _, Kd.R_far (Kd.R_over h.r2 h.r1 (by decide) hg) ne _, Kd.R_far (Kd.R_over h.r3 h.r1 (by decide) hg) ne _, hn⟩
theorem FL.push2 {y : S52} {A : Option Addr} {c : Nat} (h : FL w wi L bl B1 B2 b tx sy fs bo e1 e2 A1 c1 A2 c2 A3 c3) (ho : Kd.R k52 52 w1 w.heap.size (fun k => b < k) (.slice A (fs ++ [y]).length c) (fs ++ [y])) (hb : Below w.heap.size w w1) (hg : wi.grownBy w1 (Value.slice A2 fs.length c2).ownBlock) :
  FL w (w1.setCell ⟨w.heap.size, 1, none⟩ (.slice A (fs.length + 1) c)) L bl B1 B2 b tx sy (fs ++ [y]) bo e1 e2 A1 c1 A c A3 c3 := by
 rw [show fs.length + 1 = (fs ++ [y]).length from by simp]
 have hn := h.n
 have hr : ∀ k, (Value.slice A2 fs.length c2).ownBlock = some k → b < k := h.r2.1
 have ne : ∀ k, b < k → k ≠ w.heap.size := fun k hk => by omega
 have nb : ∀ g, g ≤ b → some g ≠ (Value.slice A2 fs.length c2).ownBlock := fun g hg e => by have := hr _ e.symm; omega
 refine ⟨(h.g.grown hb hg (fun k hk => by have := hr k hk; omega)).set1 _, blk_far (aU_ h.l hg (nb _ (by omega))) (by show bl ≠ w.heap.size; omega) _, (RT.mk (aU_ h.rt.blk hg (nb _ (Nat.le_refl _)))).far (by omega) _ _, (h.m1.grown hg (nb _ (by omega))).far (by show B1 ≠ w.heap.size; omega) _, (h.m2.grown hg (nb _ (by omega))).far (by show B2 ≠ w.heap.size; omega) _, Kd.R_far (Kd.R_over h.r1 h.r2 (by decide) hg) ne _, Kd.R_far ho ne _, Kd.R_far (Kd.R_over h.r3 h.r2 (by decide) hg) ne _, hn⟩
theorem FL.push3 {y : ByteArray} {A : Option Addr} {c : Nat} (h : FL w wi L bl B1 B2 b tx sy fs bo e1 e2 A1 c1 A2 c2 A3 c3) (ho : Kd.R Kd.string 9 w1 w.heap.size (fun k => b < k) (.slice A (bo ++ [y]).length c) (bo ++ [y])) (hb : Below w.heap.size w w1) (hg : wi.grownBy w1 (Value.slice A3 bo.length c3).ownBlock) :
  FL w w1 L bl B1 B2 b tx sy fs (bo ++ [y]) e1 e2 A1 c1 A2 c2 A c := by
 have hn := h.n
 have hr : ∀ k, (Value.slice A3 bo.length c3).ownBlock = some k → b < k := h.r3.1
 have nb : ∀ g, g ≤ b → some g ≠ (Value.slice A3 bo.length c3).ownBlock := fun g hg e => by have := hr _ e.symm; omega
 refine ⟨h.g.grown hb hg (fun k hk => by have := hr k hk; omega), aU_ h.l hg (nb _ (by omega)), ⟨aU_ h.rt.blk hg (nb _ (Nat.le_refl _))⟩, h.m1.grown hg (nb _ (by omega)), h.m2.grown hg (nb _ (by omega)), Kd.R_over h.r1 h.r3 (by decide) hg, Kd.R_over h.r2 h.r3 (by decide) hg, ho, hn⟩
end
theorem lnAll_snoc (g : GSt) (l : List ByteArray) (s : ByteArray) : lnAll g (l ++ [s]) = (lnAll g l).bind fun g2 => lnStep g2 s := by
 induction l generalizing g with
 | nil =>
  show (lnStep g s).bind (fun g2 => lnAll g2 []) = lnStep g s
  cases lnStep g s <;> rfl
 | cons a r ih =>
  rw [List.cons_append, lnAll, lnAll]
  cases lnStep g a with
  | none => rfl
  | some g2 => simp only [l23_]; exact ih g2
theorem lnAll_none {g : GSt} {l : List ByteArray} {n i : Nat} (hi : i < n) (hn : n ≤ l.length) (h : lnAll g (l.take (i + 1)) = none) : lnAll g (l.take n) = none := by
 have e : ∀ (a b : List ByteArray) (g : GSt), lnAll g a = none → lnAll g (a ++ b) = none := by
  intro a b
  induction a with
  | nil => intro g h; cases h
  | cons x r ih =>
   intro g h
   rw [List.cons_append, lnAll]
   rw [lnAll] at h
   cases q : lnStep g x with
   | none => rfl
   | some g2 => rw [q] at h; simp only [l23_] at h ⊢; exact ih g2 h
 have e2 := (List.take_append_drop (i + 1) (l.take n)).symm
 rw [List.take_take, show min (i + 1) n = i + 1 by omega] at e2
 rw [e2]
 exact e _ _ _ h
theorem getV3_end {t : ByteArray} (h : (chunks t 10).getD ((chunks t 10).length - 1) ByteArray.empty ≠ ByteArray.empty) : getV3 t = none := by unfold getV3; simp only; rw [if_neg h]
theorem getV3_lines {t : ByteArray} (h : lnAll ⟨[], [], [], false⟩ ((chunks t 10).take ((chunks t 10).length - 1)) = none) : getV3 t = none := by
 unfold getV3
 simp only
 split
 ·rw [h]; rfl
 ·rfl
theorem getV3_main {t : ByteArray} (h0 : (chunks t 10).getD ((chunks t 10).length - 1) ByteArray.empty = ByteArray.empty) {g : GSt} (h : lnAll ⟨[], [], [], false⟩ ((chunks t 10).take ((chunks t 10).length - 1)) = some g) :
  getV3 t = (boAll (nmE (g.sy.map (·.f0))) (nmE (g.fs.map (·.f0))) g.fs g.bo).map fun fs => (g.sy, fs, g.large) := by
 unfold getV3
 simp only
 rw [if_pos h0, h]; rfl
theorem nmE_put {x : ByteArray} {l : List ByteArray} (h : mget x (nmE l) = none) : mput x (l.length : Int) (nmE l) = nmE (l ++ [x]) := by
 rw [nmE_snoc, if_pos h]
 exact mput_new (mget_none.1 h)
theorem nmE_keep {x : ByteArray} {l : List ByteArray} {v : Int} (h : mget x (nmE l) = some v) : nmE l = nmE (l ++ [x]) := by
 rw [nmE_snoc, if_neg (by rw [h]; simp)]
theorem GH3.far {w W : World} {x y : Value} (h : GH3 w W x y) {b : Nat} (hb : w.heap.size + 2 ≤ b) (i : Nat) (u : Value) : GH3 w (W.setCell ⟨b, i, none⟩ u) x y :=
 ⟨h.hb.setCell (p := ⟨b, i, none⟩) (by show w.heap.size ≤ b; omega) _, blk_far h.ha (by show w.heap.size ≠ b; omega) _, blk_far h.he (by show w.heap.size + 1 ≠ b; omega) _⟩
section
variable {w wi w1 : World} {L : List ByteArray} {bl B1 B2 b : Nat} {tx : List UInt8} {sy : List S71} {fs fs2 : List S52} {bo : List ByteArray} {e1 e2 : Ents} {A1 A2 A3 : Option Addr} {c1 c2 c3 : Nat}
theorem FL.setT (h : FL w wi L bl B1 B2 b tx sy fs bo e1 e2 A1 c1 A2 c2 A3 c3) (s : ByteArray) : FL w (wi.setCell ⟨b, 0, none⟩ (.string s)) L bl B1 B2 b s.data.toList sy fs bo e1 e2 A1 c1 A2 c2 A3 c3 := by
 have hn := h.n
 have ne : ∀ k, b < k → k ≠ b := fun k hk => by omega
 exact ⟨h.g.far (by omega) _ _, blk_far h.l (by show bl ≠ b; omega) _, h.rt.set s, h.m1.far (by show B1 ≠ b; omega) _, h.m2.far (by show B2 ≠ b; omega) _, Kd.R_far h.r1 ne _, Kd.R_far h.r2 ne _, Kd.R_far h.r3 ne _, hn⟩
theorem FL.call {l2 : List UInt8} (h : FL w wi L bl B1 B2 b tx sy fs bo e1 e2 A1 c1 A2 c2 A3 c3) (hk : KR b wi w1) (hr : RT b l2 (.map (some B1)) (.map (some B2)) w1) : FL w w1 L bl B1 B2 b l2 sy fs bo e1 e2 A1 c1 A2 c2 A3 c3 := by
 have hn := h.n
 have ne : ∀ k, b < k → k ≠ b := fun k hk => by omega
 exact ⟨h.g.call hk (by omega), hk.blk (by omega) h.l, hr, h.m1.kept (hk.keep.2 B1 h.m1.lt (by omega) (by simp)), h.m2.kept (hk.keep.2 B2 h.m2.lt (by omega) (by simp)), hk.rr h.r1 ne, hk.rr h.r2 ne, hk.rr h.r3 ne, hn⟩
theorem FL.rm (h : FL w wi L bl B1 B2 b tx sy fs bo e1 e2 A1 c1 A2 c2 A3 c3) : RM b tx B1 B2 e1 e2 wi := by
 have hn := h.n
 exact ⟨h.rt, h.m1, h.m2, by omega, by omega⟩
theorem FL.stored (h : FL w wi L bl B1 B2 b tx sy fs bo e1 e2 A1 c1 A2 c2 A3 c3) (hl : fs2.length = fs.length) (ho : Kd.R k52 52 w1 w.heap.size (fun k => b < k) (.slice A2 fs.length c2) fs2) (hg : wi.grownBy w1 (Value.slice A2 fs.length c2).ownBlock) :
  FL w w1 L bl B1 B2 b tx sy fs2 bo e1 e2 A1 c1 A2 c2 A3 c3 := by
 have hn := h.n
 have hr : ∀ k, (Value.slice A2 fs.length c2).ownBlock = some k → b < k := h.r2.1
 have nb : ∀ g, g ≤ b → some g ≠ (Value.slice A2 fs.length c2).ownBlock := fun g hg e => by have := hr _ e.symm; omega
 have hb : Below w.heap.size w w1 := pw_below_grown h.g.hb _ h.g.hb.size hg (fun k hk => by have := hr k hk; omega)
 have hgg := h.g.grown hb hg (fun k hk => by have := hr k hk; omega)
 rw [← hl] at hgg ho
 exact ⟨hgg, aU_ h.l hg (nb _ (by omega)), ⟨aU_ h.rt.blk hg (nb _ (Nat.le_refl _))⟩, h.m1.grown hg (nb _ (by omega)), h.m2.grown hg (nb _ (by omega)), Kd.R_over h.r1 h.r2 (by decide) hg, ho, Kd.R_over h.r3 h.r2 (by decide) hg, hn⟩
theorem FL.fin (h : FL w wi L bl B1 B2 b tx sy fs bo e1 e2 A1 c1 A2 c2 A3 c3) (v0 v1 e : Value) :
  (Kd.C k71 (((wi.setCell ⟨w.heap.size, 0, none⟩ v0).setCell ⟨w.heap.size, 1, none⟩ v1).setCell ⟨w.heap.size + 1, 0, none⟩ e) A1 sy.length sy ∧ sy.length ≤ c1 ∧ Kd.C k52 (((wi.setCell ⟨w.heap.size, 0, none⟩ v0).setCell ⟨w.heap.size, 1, none⟩ v1).setCell ⟨w.heap.size + 1, 0, none⟩ e) A2 fs.length fs ∧ fs.length ≤ c2) ∧
  Below w.heap.size w (((wi.setCell ⟨w.heap.size, 0, none⟩ v0).setCell ⟨w.heap.size, 1, none⟩ v1).setCell ⟨w.heap.size + 1, 0, none⟩ e) ∧ (((wi.setCell ⟨w.heap.size, 0, none⟩ v0).setCell ⟨w.heap.size, 1, none⟩ v1).setCell ⟨w.heap.size + 1, 0, none⟩ e).heap[w.heap.size]? = some (.cells #[v0, v1] 25 (0, 0)) ∧
  (((wi.setCell ⟨w.heap.size, 0, none⟩ v0).setCell ⟨w.heap.size, 1, none⟩ v1).setCell ⟨w.heap.size + 1, 0, none⟩ e).heap[w.heap.size + 1]? = some (.cells #[e] 26 (0, 0)) := by
 have hn := h.n
 have ne : ∀ k, b < k → k ≠ w.heap.size := fun k hk => by omega
 have ne1 : ∀ k, b < k → k ≠ w.heap.size + 1 := fun k hk => by omega
 have q := (h.g.set0 v0).set1 v1
 have r1 := Kd.R_reads' (Kd.R_far (p := ⟨w.heap.size + 1, 0, none⟩) (Kd.R_far (p := ⟨w.heap.size, 1, none⟩) (Kd.R_far (p := ⟨w.heap.size, 0, none⟩) h.r1 ne v0) ne v1) ne1 e)
 have r2 := Kd.R_reads' (Kd.R_far (p := ⟨w.heap.size + 1, 0, none⟩) (Kd.R_far (p := ⟨w.heap.size, 1, none⟩) (Kd.R_far (p := ⟨w.heap.size, 0, none⟩) h.r2 ne v0) ne v1) ne1 e)
 exact ⟨⟨r1.2.2, r1.2.1, r2.2.2, r2.2.1⟩, q.hb.setCell (p := ⟨w.heap.size + 1, 0, none⟩) (Nat.le_succ _) _, blk_far q.ha (by show w.heap.size ≠ w.heap.size + 1; omega) _, blk_set q.he 0 _⟩
theorem FL.gone (h : FL w wi L bl B1 B2 b tx sy fs bo e1 e2 A1 c1 A2 c2 A3 c3) (hk : KR b wi w1) : GH3 w w1 (.slice A1 sy.length c1) (.slice A2 fs.length c2) := by
 have hn := h.n
 exact h.g.call hk (by omega)
end
theorem row_body {W : World} {base g n cap : Nat} {ok okp : Nat → Prop} {xs : List S52} (HO : Kd.R k52 52 W base ok (.slice (some ⟨g, 0, none⟩) n cap) xs) {j : Nat} (hi : j < n) (tt : S50) {v : Value} (hv : k50.R 50 W base okp v tt.f2) (hokp : ∀ k, okp k → ok k ∧ k ≠ g) :
  Kd.R k52 52 (W.setCells g (j * 5 + 2) [.int .i64 tt.f0, .int .i64 tt.f1, v]) base ok (.slice (some ⟨g, 0, none⟩) n cap) (xs.set j ⟨(xs.getD j z52).f0, (xs.getD j z52).f1, tt⟩) ∧ W.grownBy (W.setCells g (j * 5 + 2) [.int .i64 tt.f0, .int .i64 tt.f1, v]) (some g) := by
 obtain ⟨c, hcl, hM, hcc, _⟩ := Kd.R_elem HO z52 (j : Int) (by omega) (by omega)
 rw [l14_] at hM hcc
 obtain ⟨v1, v4, rfl, g1, g4⟩ := Q.k52_openM hM
 have h := Kd.R_seg (okp := fun k => ok k ∧ k ≠ g) HO (j : Int) (by omega) (by omega) hcl (j := 2) (seg := [.int .i64 tt.f0, .int .i64 tt.f1, v]) (by rw [l14_]; exact hcc) (by show 2 + 3 ≤ 5; decide) (x' := ⟨(xs.getD j z52).f0, (xs.getD j z52).f1, tt⟩)
  (Q.k52_mkM W base _ ⟨(xs.getD j z52).f0, (xs.getD j z52).f1, tt⟩ g1 (Kd.R_mono hv hokp)) (fun k hk => hk)
 rw [l14_] at h
 exact h
theorem body_cells {W : World} {base g n cap : Nat} {ok : Nat → Prop} {xs : List S52} (HO : Kd.R k52 52 W base ok (.slice (some ⟨g, 0, none⟩) n cap) xs) {j : Nat} (hi : j < n) :
  (∃ x y z, W.cell? ⟨g, j * 5 + 2, none⟩ = some x ∧ W.cell? ⟨g, j * 5 + 2 + 1, none⟩ = some y ∧ W.cell? ⟨g, j * 5 + 2 + 2, none⟩ = some z) ∧ W.frozen? ⟨g, j * 5 + 2, none⟩ = false ∧ W.frozen? ⟨g, j * 5 + 2 + 1, none⟩ = false ∧ W.frozen? ⟨g, j * 5 + 2 + 2, none⟩ = false := by
 obtain ⟨c, hcl, hM, hcc, hf⟩ := Kd.R_elem HO z52 (j : Int) (by omega) (by omega)
 rw [l14_] at hM hcc hf
 obtain ⟨v1, v4, rfl, g1, g4⟩ := Q.k52_openM hM
 exact ⟨⟨_, _, _, hcc 2 _ rfl, hcc 3 _ rfl, hcc 4 _ rfl⟩, hf 2, hf 3, hf 4⟩
theorem lnStep_bo {g g2 : GSt} {s : ByteArray} (h : lnStep g s = some g2) : ∀ x ∈ g2.bo, x ∈ g.bo ∨ x.size ≤ s.size := by
 unfold lnStep at h
 simp only at h
 split at h
 ·obtain ⟨y, _, rfl⟩ := Option.map_eq_some_iff.1 h
  exact fun x hx => .inl hx
 ·split at h
  ·split at h
   ·cases h
   ·obtain rfl := l13_ h
    intro x hx
    rcases List.mem_append.1 hx with hx | hx
    ·exact .inl hx
    ·obtain rfl := List.mem_singleton.1 hx
     right
     show (Lib.cut (Lib.cut (Lib.trimPrefix s.data.toList pFun) [32, 58, 32]).2.1 [32, 61, 32]).2.1.toArray.size ≤ s.size
     rw [List.size_toArray, Lib.size_eq]
     have i1 := (cut_size (Lib.trimPrefix s.data.toList pFun) [32, 58, 32]).2
     have i2 := (cut_size (Lib.cut (Lib.trimPrefix s.data.toList pFun) [32, 58, 32]).2.1 [32, 61, 32]).2
     have := trim_len s.data.toList pFun
     omega
  ·cases h
theorem lnAll_bo {m : Nat} : ∀ (l : List ByteArray) (g g2 : GSt), (∀ s ∈ l, s.size ≤ m) → (∀ x ∈ g.bo, x.size ≤ m) → lnAll g l = some g2 → ∀ x ∈ g2.bo, x.size ≤ m := by
 intro l
 induction l with
 | nil => intro g g2 _ hg h; obtain rfl := l13_ h; exact hg
 | cons s r ih =>
  intro g g2 hl hg h
  rw [lnAll] at h
  obtain ⟨g1, h1, h⟩ := Option.bind_eq_some_iff.1 h
  refine ih g1 g2 (fun x hx => hl x (l20_ _ hx)) (fun x hx => ?_) h
  rcases lnStep_bo h1 x hx with hx | hx
  ·exact hg x hx
  ·exact Nat.le_trans hx (hl s (l19_ ..))
theorem boAll_next {e1 e2 : Ents} {fs : List S52} {bo : List ByteArray} {j : Nat} (h : j < bo.length) (h2 : bo.length = fs.length) {dn : List S52} (hd : dn.length = j) :
  boAll e1 e2 (fs.drop j) (bo.drop j) = (tmR e1 e2 (bo.getD j ByteArray.empty).data.toList).bind fun p => if p.2 = [] then (boAll e1 e2 (fs.drop (j + 1)) (bo.drop (j + 1))).map (⟨(fs.getD j z52).f0, (fs.getD j z52).f1, p.1⟩ :: ·) else none := by
 have h3 : j < fs.length := by omega
 rw [List.drop_eq_getElem_cons h, List.drop_eq_getElem_cons h3, boAll]
 simp [l18_, h, h3]
theorem boAll_end {e1 e2 : Ents} {fs : List S52} {bo : List ByteArray} (h2 : bo.length = fs.length) : boAll e1 e2 (fs.drop bo.length) (bo.drop bo.length) = some [] := by
 rw [l15_ (by omega), l15_ (Nat.le_refl _)]; rfl
theorem set_next {fs dn : List S52} {j : Nat} (hd : dn.length = j) (h : j < fs.length) (x : S52) : (dn ++ fs.drop j).set j x = (dn ++ [x]) ++ fs.drop (j + 1) := by
 subst hd
 rw [List.set_append_right _ _ (Nat.le_refl _), Nat.sub_self, List.drop_eq_getElem_cons h, l5_, List.append_assoc]
 rfl
theorem get_next {fs dn : List S52} {j : Nat} (hd : dn.length = j) (h : j < fs.length) : (dn ++ fs.drop j).getD j z52 = fs.getD j z52 := by
 subst hd
 rw [l18_, l18_, List.getElem?_append_right (Nat.le_refl _), Nat.sub_self, List.getElem?_drop, Nat.add_zero]
theorem symR_size {l : List UInt8} {y : S71} (h : symR l = some y) : y.f0.size ≤ l.length := by
 unfold symR at h
 split at h
 ·obtain rfl := l13_ h
  have := (cut_size l [32]).1
  show (Lib.cut l [32]).1.toArray.size ≤ l.length
  rw [List.size_toArray]; exact this
 ·cases h
theorem line_cases (l : List UInt8) (n : Nat) : (Lib.hasPrefix l pSym = true ∧ n = 0) ∨ (Lib.hasPrefix l pSym = true ∧ ¬ n = 0) ∨ Lib.hasPrefix l pSym = false := by
 cases Lib.hasPrefix l pSym with
 | true => by_cases h : n = 0 <;> simp [h]
 | false => simp
def lnFun (g : GSt) (s : ByteArray) : Option GSt :=
 if Lib.hasPrefix s.data.toList pFun = true ∧ (Lib.cut (Lib.trimPrefix s.data.toList pFun) [32, 58, 32]).2.2 = true ∧ (Lib.cut (Lib.cut (Lib.trimPrefix s.data.toList pFun) [32, 58, 32]).2.1 [32, 61, 32]).2.2 = true ∧ nameB ⟨(Lib.cut (Lib.trimPrefix s.data.toList pFun) [32, 58, 32]).1.toArray⟩ = true then
  (if (getSR ⟨(Lib.cut (Lib.cut (Lib.trimPrefix s.data.toList pFun) [32, 58, 32]).2.1 [32, 61, 32]).1.toArray⟩).1 = 4 then none
   else some { sy := g.sy, fs := g.fs ++ [⟨⟨(Lib.cut (Lib.trimPrefix s.data.toList pFun) [32, 58, 32]).1.toArray⟩, (getSR ⟨(Lib.cut (Lib.cut (Lib.trimPrefix s.data.toList pFun) [32, 58, 32]).2.1 [32, 61, 32]).1.toArray⟩).2, ⟨0, 0, []⟩⟩], bo := g.bo ++ [⟨(Lib.cut (Lib.cut (Lib.trimPrefix s.data.toList pFun) [32, 58, 32]).2.1 [32, 61, 32]).2.1.toArray⟩], large := g.large || decide ((getSR ⟨(Lib.cut (Lib.cut (Lib.trimPrefix s.data.toList pFun) [32, 58, 32]).2.1 [32, 61, 32]).1.toArray⟩).1 ≠ 0) })
 else none
theorem lnStep_fun0 {g : GSt} {s : ByteArray} (h : ¬ (Lib.hasPrefix s.data.toList pSym = true ∧ g.fs.length = 0)) : lnStep g s = lnFun g s := by
 unfold lnStep lnFun
 simp only
 rw [if_neg h]
theorem info9 : (Tryz.prog.info? 9).map (fun i => (i.zero, i.size, i.bytes)) = some (some (.string ⟨#[]⟩), 1, 16) := by kernel_rfl
theorem bytes_empty {s : ByteArray} (h : s.toList.isEmpty = true) : s = ByteArray.empty := by
 rw [Lib.toList_data] at h
 rcases s with ⟨⟨l⟩⟩
 have : l = [] := List.isEmpty_iff.1 h
 rw [this]; rfl
set_option maxHeartbeats 16000000 in
set_option maxRecDepth 100000 in
theorem get3_calls (t : ByteArray) (w : World) (hm : MX w) : Calls Tryz.prog 19 #[.string t] w (GetE3 t w) := by
 have hmf := run_mkfun3
 have hmm := @run_makeMap Tryz.prog
 have HM := mk0 hm
 have HG := mk0 (GH3.start w)
 have HSZ1 := mk0 (show ((w.alloc (.cells #[.slice none 0 0, .slice none 0 0] 25)).alloc (.cells #[.int .i64 0] 26)).heap.size = w.heap.size + 2 from by simp)
 clear hm
 go_enter_defers Tryz.func19, Tryz.ntmps19
 go_upto_region 1 with (fail)
 generalize ((w.alloc (.cells #[.slice none 0 0, .slice none 0 0] 25)).alloc (.cells #[.int .i64 0] 26)) = W1 at *
 obtain ⟨c0, c1, c3⟩ := (HG.out).cells
 obtain ⟨f0, f1, f3⟩ := (HG.out).frozen
 cases q1 : decide ((t.size : Int) > 65536) with
 | true =>
  have HR := mk0 (show getR3 t = (3, [], []) by unfold getR3; rw [if_pos (by have := l0_ q1; omega)])
  have HQ := mk0 (((HG.out).set0 (.slice none 0 0)).set1 (.slice none 0 0))
  go_wp2
  exact get3_ret0 HR.out ((HQ.out).hb.setCell (p := ⟨w.heap.size + 1, 0, none⟩) (Nat.le_succ _) _) (blk_far (HQ.out).ha (by show w.heap.size ≠ w.heap.size + 1; omega) _) (blk_set (HQ.out).he 0 _) _ rfl rfl
 | false =>
 have HSZ := mk0 (show t.size ≤ 65536 by have := of_decide_eq_false q1; omega)
 have HSP := mk0 (split_calls t 10 W1 (by have := HSZ.out; omega) ((HM.out).below (HG.out).hb))
 clear c0 c1 c3 f0 f1 f3
 go_wp2_with fail
 refine (HSP.out).mono ?_
 rintro E w2 ⟨rfl, hw⟩
 clear q1
 have hb := aA_ (Below.refl W1.heap.size W1) (.cells ((chunks t 10).map Value.string).toArray 9)
 have hbn := aS_ W1 (.cells ((chunks t 10).map Value.string).toArray 9)
 rw [← hw] at hb hbn
 have HG2 := mk0 ((HG.out).below hb)
 have HLB := mk0 hbn
 have HLS := mk0 (show (chunks t 10).length ≤ 65537 from by have := chunks_short t 10; have := HSZ.out; omega)
 have HV1 := mk0 (fun h => getV3_end (t := t) h)
 have HV2 := mk0 (fun h => getV3_lines (t := t) h)
 have HV3 := mk0 (fun h0 g h => getV3_main (t := t) h0 (g := g) h)
 have HCS := mk0 (fun i => chunk_size t 10 i)
 have HBL := mk0 (show w.heap.size + 2 ≤ W1.heap.size from by have := HSZ1.out; omega)
 have hpos := chunks_pos t 10
 clear hw hb hbn HG HSP HSZ1
 generalize chunks t 10 = L at *
 generalize W1.heap.size = bl at *
 have hk := strs_cell HLB.out (show L.length - 1 < L.length by omega)
 generalize hle : L.getD (L.length - 1) ByteArray.empty = le at *
 have HLEE := mk0 hle
 clear hle
 have hz2 : IntKind.i64.wrap ((L.length : Int) - 1) = (L.length : Int) - 1 := by have := HLS.out; simp [IntKind.wrap, IntKind.bits, IntKind.signed]; omega
 cases q3 : le.toList.isEmpty with
 | false =>
  have HN := mk0 (HV1.out (fun e => by rw [e, Lib.toList_data] at q3; revert q3; decide))
  go_wp2
  exact get3_panic (getR3_bad HSZ.out HN.out) HG2.out _ rfl rfl
 | true =>
 have HLE := mk0 (show le = ByteArray.empty from bytes_empty q3)
 go_upto_region 10 with (fail)
 clear hk hz2 q3
 obtain ⟨n, hn⟩ : ∃ n, L.length = n + 1 := ⟨L.length - 1, by omega⟩
 have hlt3 := blk_lt HLB.out
 have HF := mk0 (show FL w (((w2.alloc (.map #[] 0)).alloc (.map #[] 0)).alloc (.cells #[.string ⟨#[]⟩, .map (some w2.heap.size), .map (some (w2.heap.size + 1))] 92)) L bl w2.heap.size (w2.heap.size + 1) (w2.heap.size + 1 + 1) [] [] [] [] [] [] none 0 none 0 none 0 from by
  have b1 := aA_ (Below.refl w2.heap.size w2) (.map #[] 0)
  have b2 := aA_ (Below.refl (w2.alloc (.map #[] 0)).heap.size (w2.alloc (.map #[] 0))) (.map #[] 0)
  have b3 := aA_ (Below.refl ((w2.alloc (.map #[] 0)).alloc (.map #[] 0)).heap.size ((w2.alloc (.map #[] 0)).alloc (.map #[] 0))) (.cells #[.string ⟨#[]⟩, .map (some w2.heap.size), .map (some (w2.heap.size + 1))] 92)
  have hb := aL_ (aL_ b1 b1.size b2) (aL_ b1 b1.size b2).size b3
  have m1 := ((mapIs_new w2 Value.string ki sdom).below b2).below b3
  have m2 := (mapIs_new (w2.alloc (.map #[] 0)) Value.string ki sdom).below b3
  have e1 : (w2.alloc (.map #[] 0)).heap.size = w2.heap.size + 1 := by simp
  have e2 : ((w2.alloc (.map #[] 0)).alloc (.map #[] 0)).heap.size = w2.heap.size + 1 + 1 := by simp
  have hx := aS_ ((w2.alloc (.map #[] 0)).alloc (.map #[] 0)) (.cells #[.string ⟨#[]⟩, .map (some w2.heap.size), .map (some (w2.heap.size + 1))] 92)
  rw [e2] at hx
  rw [e1] at m2
  exact ⟨(HG2.out).below hb, aJ_ HLB.out hb, ⟨hx⟩, m1, m2, Kd.R_nil _ _ _ _ _, Kd.R_nil _ _ _ _ _, Kd.R_nil _ _ _ _ _, by have := HBL.out; omega⟩)
 have HLT := mk0 hlt3
 clear hlt3 HG2 HLB HBL hmm
 generalize (((w2.alloc (.map #[] 0)).alloc (.map #[] 0)).alloc (.cells #[.string ⟨#[]⟩, .map (some w2.heap.size), .map (some (w2.heap.size + 1))] 92)) = w3 at *
 generalize w2.heap.size = B at *
 rw [hn] at HV2 HV3 HLEE HLS
 rw [show n + 1 - 1 = n from rfl] at HV2 HV3 HLEE
 have HLL := mk0 hn
 rw [hn, show ((n + 1 : Nat) : Int) = (n : Int) + 1 from by omega, show (n : Int) + 1 - 1 = (n : Int) by omega, show n + 1 - 1 = n from rfl]
 have hz1 : wrap64 (n : Int) = (n : Int) := wr_id (by omega) (by have := HLS.out; omega)
 have hz2 : (0 : Int) ≤ (n : Int) ∧ (n : Int) ≤ (n : Int) + 1 := by omega
 have hz3 : max (n : Int) 0 = (n : Int) := by omega
 clear hn hpos
 go_wp2
 clear hz1 hz2 hz3
 go_loopg [6, 7, 55] n (fun gg v6 v7 v55 wi => ∃ (i : Nat) (G : GSt) (A1 : Option Addr) (c1 : Nat) (A2 : Option Addr) (c2 : Nat) (A3 : Option Addr) (c3 : Nat), i ≤ n ∧ n - i ≤ gg ∧ v6 = .slice A3 G.bo.length c3 ∧ v7 = .bool G.large ∧ v55 = .int .i64 i ∧ Aside0 (lnAll ⟨[], [], [], false⟩ (L.take i) = some G) ∧ Aside0 (G.sy.length + G.fs.length = i ∧ G.bo.length = G.fs.length) ∧ Aside0 (FL w wi L bl B (B + 1) (B + 1 + 1) [] G.sy G.fs G.bo (nmE (G.sy.map (·.f0))) (nmE (G.fs.map (·.f0))) A1 c1 A2 c2 A3 c3))
 case atStart => exact ⟨0, ⟨[], [], [], false⟩, none, 0, none, 0, none, 0, Nat.zero_le _, Nat.le_refl _, rfl, rfl, rfl, ⟨rfl⟩, ⟨rfl, rfl⟩, HF⟩
 case round =>
  clear HF
  obtain ⟨i, G, A1, c1, A2, c2, A3, c3, hi, hgg, rfl, rfl, rfl, HG, HN, HF⟩ := hrel
  by_cases hlt : i < n
  ·have hltz : (i : Int) < (n : Int) := by omega
   have HIN := mk0 hlt
   have hk := strs_cell (HF.out).l (show i < L.length by have := HLL.out; omega)
   have HSB := mk0 (HCS.out i)
   have HTK := mk0 (show L.take (i + 1) = L.take i ++ [L.getD i ByteArray.empty] by
    have hi2 : i < L.length := by have := HLL.out; omega
    rw [List.take_succ_eq_append_getElem hi2, l18_, l17_ hi2]; rfl)
   generalize L.getD i ByteArray.empty = s at *
   have HSTEP := mk0 (show lnAll ⟨[], [], [], false⟩ (L.take (i + 1)) = lnStep G s by rw [HTK.out, lnAll_snoc, HG.out]; rfl)
   have HBAD := mk0 (fun (h : lnStep G s = none) => getR3_bad HSZ.out (HV2.out (lnAll_none HIN.out (by have := HLL.out; omega) (HSTEP.out.trans h))))
   have HKZ := mk0 (show wrap64 ((i : Int) + 1) = ((i + 1 : Nat) : Int) by rw [wr_id (by omega) (by have := HLS.out; omega)]; rfl)
   clear HTK
   have HP1 := mk0 (fun (W1 : World) => Tryz.strings_CutPrefix s ⟨#[115, 121, 109, 98, 111, 108, 32]⟩ W1)
   rw [show (ByteArray.mk #[115, 121, 109, 98, 111, 108, 32]).data.toList = pSym from rfl] at HP1
   go_wp2_with fail
   refine (HP1.out _).mono ?_
   rintro E w4 ⟨rfl, hw⟩
   subst hw
   have g1 := (HF.out).g.cells.2.1
   rcases line_cases s.data.toList G.fs.length with ⟨q1, hfz⟩ | ⟨q1, hfz⟩ | q1
   ··have hfzz : (G.fs.length : Int) = 0 := by omega
     have hsz : (ByteArray.mk (Lib.trimPrefix s.data.toList pSym).toArray).size ≤ 70000 := by
      show (Lib.trimPrefix s.data.toList pSym).toArray.size ≤ 70000
      rw [List.size_toArray]
      have := trim_len s.data.toList pSym
      rw [← Lib.size_eq] at this
      have := HSB.out; have := HSZ.out
      omega
     have HSY := mk0 (symbol_calls ⟨(Lib.trimPrefix s.data.toList pSym).toArray⟩ w4 hsz ((HM.out).below (HF.out).hb))
     rw [show (ByteArray.mk (Lib.trimPrefix s.data.toList pSym).toArray).data.toList = Lib.trimPrefix s.data.toList pSym from rfl] at HSY
     have HLN := mk0 (show lnStep G s = (symR (Lib.trimPrefix s.data.toList pSym)).map fun y => { G with sy := G.sy ++ [y] } by unfold lnStep; simp only; rw [if_pos ⟨q1, hfz⟩])
     have HFZ := mk0 hfz
     have HLX := mk0 (show (Lib.trimPrefix s.data.toList pSym).length ≤ s.size from by have := trim_len s.data.toList pSym; rw [← Lib.size_eq] at this; exact this)
     clear hsz
     generalize Lib.trimPrefix s.data.toList pSym = lx at *
     go_wp2_with fail
     refine (HSY.out).mono ?_
     rintro E w5 ⟨hb, hE⟩
     have HF5 := mk0 ((HF.out).below hb)
     clear hb HSY HF hk g1
     rcases hE with ⟨hn, rfl⟩ | ⟨y, hy, rfl⟩
     ·have HX := mk0 (HBAD.out (by rw [HLN.out, hn]; rfl))
      clear hn q1 hfz hfzz
      unfold pwrong
      go_wp2
      exact get3_panic HX.out (HF5.out).g _ rfl rfl
     ·have HGO := mk0 (show lnStep G s = some { G with sy := G.sy ++ [y] } by rw [HLN.out, hy]; rfl)
      have HYZ := mk0 (show y.f0.size ≤ 70000 by have := symR_size hy; have := HSB.out; have := HSZ.out; have := HLX.out; omega)
      have HSN := mk0 (show (G.sy ++ [y]).map (·.f0) = G.sy.map (·.f0) ++ [y.f0] by simp)
      have HSL := mk0 (show G.sy.length ≤ 70000 from by have := (HN.out).1; have := HLS.out; have := HIN.out; omega)
      clear hy q1 hfz hfzz HLN HBAD
      go_upto_region 16 with (fail)
      have HX6 := mk0 (aS_ w5 (.cells #[.string y.f0, .int .i64 y.f1] 71))
      have HF6 := mk0 ((HF5.out).below (aA_ (Below.refl w5.heap.size w5) (.cells #[.string y.f0, .int .i64 y.f1] 71)))
      have hb6 := (HF5.out).lt
      clear HF5
      generalize (w5.alloc (.cells #[.string y.f0, .int .i64 y.f1] 71)) = w6 at *
      have HBY := mk0 (show B + 1 + 1 < w5.heap.size ∧ w.heap.size + 2 ≤ B from ⟨hb6, by have := (HF6.out).n; omega⟩)
      clear hb6
      generalize w5.heap.size = by_ at *
      have hq1 := (HF6.out).rt.cells.2.1
      have x0 : w6.cell? ⟨by_, 0, none⟩ = some (.string y.f0) := (aC_ HX6.out 0).trans rfl
      have HDOM := mk0 (show sdom y.f0 from by unfold sdom maxLen; have := HYZ.out; omega)
      have hl : ∀ m, _ := fun m => MapIs.look ((HF6.out).m1.below (aB_ (Below.refl _ _) m)) keyStr Tryz.underlying90 (zero3 (w6.drewN m)) HDOM.out true
      cases qm : mget y.f0 (nmE (G.sy.map (·.f0))) with
      | none =>
       rw [qm] at hl
       simp only [if_true] at hl
       have HQM := mk0 qm
       clear qm
       go_quiet (fail)
       have HF7 := mk0 ((HF6.out).below (aB_ (Below.refl w6.heap.size w6) nq))
       have HX7 := mk0 (aJ_ HX6.out (aB_ (Below.refl w6.heap.size w6) nq))
       clear HF6 HX6 hq1 x0 hl
       generalize w6.drewN nq = w7 at *
       go_upto_region 18 with (fail)
       have hq1 := (HF7.out).rt.cells.2.1
       have x0 : w7.cell? ⟨by_, 0, none⟩ = some (.string y.f0) := (aC_ HX7.out 0).trans rfl
       have d0 := (HF7.out).g.cells.1
       refine wp_region_still_tail 9 (by kernel_rfl) (by kernel_rfl) ?_
       simp only [List.take_succ_cons, List.take_zero, List.drop_succ_cons, List.drop_zero]
       repeat (refine wpStill_step (fun K hK => ?_); go_simp; refine hK _ ?_; clear hK K)
       refine wpStill_nil ?_
       change wpList _ _ _ _ _ w7.drew
       clear hq1 x0 d0
       have HF7d := mk0 ((HF7.out).below (below_drew (Below.refl _ _)))
       have HX7d := mk0 (aJ_ HX7.out (below_drew (Below.refl _ _)))
       clear HF7 HX7
       generalize w7.drew = w7d at *
       obtain ⟨W8, hput, hm8, hg8⟩ := MapIs.put (HF7d.out).m1 keyStr Tryz.underlying90 HDOM.out (G.sy.length : Int)
       rw [show (G.sy.length : Int) = ((G.sy.map (·.f0)).length : Int) by rw [List.length_map], nmE_put HQM.out, ← HSN.out] at hm8
       unfold ki at hput
       have HF8 := mk0 ((HF7d.out).put1 hm8 hg8)
       have HX8 := mk0 (aU_ HX7d.out hg8 (fun e => by have := l13_ e; have := (HBY.out).1; omega))
       clear hm8 hg8 HF7d HX7d
       have HLE7 := mk0 (show (G.sy.length + 1) * 24 ≤ 140737488355328 by have := HSL.out; omega)
       have d0 := (HF8.out).g.cells.1
       have x0 : W8.cell? ⟨by_, 0, none⟩ = some (.string y.f0) := (aC_ HX8.out 0).trans rfl
       have x1 : W8.cell? ⟨by_, 1, none⟩ = some (.int .i64 y.f1) := (aC_ HX8.out 1).trans rfl
       clear HX8
       go_wp2_with ((with_reducible refine gate_builtin (b := .append) (xs := #[.tmp 95, .tmp 97]) rfl ?_); at_builtin; refine Kd.R_append k71 (w0 := w) w.heap.size rfl (.tmp 95) (.tmp 97) 22 71 (.agg #[.string ⟨#[]⟩, .int .i64 0]) 24 rfl Tryz.underlying22 Q.info71 rfl (show 0 < 2 by decide) (by decide) (.slice A1 G.sy.length c1) G.sy y [.string y.f0, .int .i64 y.f1] (fun k => B + 1 + 1 < k) (fun _ => False) rfl rfl (Q.k71_mkM _ _ _ y) (fun _ hk => hk.elim) (fun k hk => l12_ (HF8.out).lt hk) (HF8.out).r1 (HF8.out).hb (HF8.out).hb.size HLE7.out ?_; intro v9 w9 ho5 hb5 hg5 hat5; (obtain ⟨A9, c9, rfl⟩ := Kd.R_slice ho5); have HF9 := mk0 ((HF8.out).push1 ho5 hb5 hg5); have hGG := (HF8.out).g.grown hb5 hg5 (fun k hk => by have := (HF8.out).r1.1 k hk; have := (HF8.out).n; omega); have c6 := hGG.cells.1; have f6 := hGG.frozen.1; clear hGG ho5 hb5 hg5 hat5)
       go_roundg (n - (i + 1))
       case measure => have := HIN.out; omega
       case rel => exact ⟨i + 1, { G with sy := G.sy ++ [y] }, A9, c9, A2, c2, A3, c3, HIN.out, Nat.le_refl _, rfl, rfl, by rw [HKZ.out], ⟨HSTEP.out.trans HGO.out⟩, ⟨by show (G.sy ++ [y]).length + G.fs.length = i + 1; have := (HN.out).1; rw [l7_, l10_]; omega, (HN.out).2⟩, HF9⟩
      | some v0 =>
       rw [qm] at hl
       simp only [if_true] at hl
       unfold ki at hl
       have HKE := mk0 (nmE_keep qm)
       rw [← HSN.out] at HKE
       clear qm
       go_quiet (fail)
       have HF8 := (HF6.out).below (aB_ (Below.refl w6.heap.size w6) nq)
       rw [HKE.out] at HF8
       have HF8 := mk0 HF8
       have HX8 := mk0 (aJ_ HX6.out (aB_ (Below.refl w6.heap.size w6) nq))
       clear HF6 HX6 hq1 x0 hl HKE
       generalize w6.drewN nq = W8 at *
       have HLE7 := mk0 (show (G.sy.length + 1) * 24 ≤ 140737488355328 by have := HSL.out; omega)
       have d0 := (HF8.out).g.cells.1
       have x0 : W8.cell? ⟨by_, 0, none⟩ = some (.string y.f0) := (aC_ HX8.out 0).trans rfl
       have x1 : W8.cell? ⟨by_, 1, none⟩ = some (.int .i64 y.f1) := (aC_ HX8.out 1).trans rfl
       clear HX8
       go_wp2_with ((with_reducible refine gate_builtin (b := .append) (xs := #[.tmp 95, .tmp 97]) rfl ?_); at_builtin; refine Kd.R_append k71 (w0 := w) w.heap.size rfl (.tmp 95) (.tmp 97) 22 71 (.agg #[.string ⟨#[]⟩, .int .i64 0]) 24 rfl Tryz.underlying22 Q.info71 rfl (show 0 < 2 by decide) (by decide) (.slice A1 G.sy.length c1) G.sy y [.string y.f0, .int .i64 y.f1] (fun k => B + 1 + 1 < k) (fun _ => False) rfl rfl (Q.k71_mkM _ _ _ y) (fun _ hk => hk.elim) (fun k hk => l12_ (HF8.out).lt hk) (HF8.out).r1 (HF8.out).hb (HF8.out).hb.size HLE7.out ?_; intro v9 w9 ho5 hb5 hg5 hat5; (obtain ⟨A9, c9, rfl⟩ := Kd.R_slice ho5); have HF9 := mk0 ((HF8.out).push1 ho5 hb5 hg5); have hGG := (HF8.out).g.grown hb5 hg5 (fun k hk => by have := (HF8.out).r1.1 k hk; have := (HF8.out).n; omega); have c6 := hGG.cells.1; have f6 := hGG.frozen.1; clear hGG ho5 hb5 hg5 hat5)
       go_roundg (n - (i + 1))
       case measure => have := HIN.out; omega
       case rel => exact ⟨i + 1, { G with sy := G.sy ++ [y] }, A9, c9, A2, c2, A3, c3, HIN.out, Nat.le_refl _, rfl, rfl, by rw [HKZ.out], ⟨HSTEP.out.trans HGO.out⟩, ⟨by show (G.sy ++ [y]).length + G.fs.length = i + 1; have := (HN.out).1; rw [l7_, l10_]; omega, (HN.out).2⟩, HF9⟩
   all_goals
    have HLN := mk0 (lnStep_fun0 (g := G) (s := s) (by first | exact fun x => hfz x.2 | exact fun x => by rw [q1] at x; exact l16_ x.1))
    have HP2 := mk0 (fun (W1 : World) => Tryz.strings_CutPrefix s ⟨#[102, 117, 110, 32]⟩ W1)
    rw [show (ByteArray.mk #[102, 117, 110, 32]).data.toList = pFun from rfl] at HP2
    try (have hfzz : ((G.fs.length : Int) == 0) = false := by simpa using hfz)
    have HTL := mk0 (show (Lib.trimPrefix s.data.toList pFun).length ≤ 65536 from by have := trim_len s.data.toList pFun; rw [← Lib.size_eq] at this; have := HSB.out; have := HSZ.out; omega)
    unfold lnFun at HLN
    go_wp2_with fail
    refine (HP2.out _).mono ?_
    rintro E w5 ⟨rfl, hw⟩
    subst hw
    clear HP1 HP2 q1
    try clear hfzz
    try clear hfz
    generalize Lib.trimPrefix s.data.toList pFun = l0 at *
    generalize Lib.hasPrefix s.data.toList pFun = b0 at *
    have HC1 := mk0 (cut_calls ⟨l0.toArray⟩ ⟨#[32, 58, 32]⟩ w5 (by show l0.toArray.size ≤ 70000; rw [List.size_toArray]; have := HTL.out; omega) ((HM.out).below (HF.out).hb))
    rw [show (ByteArray.mk l0.toArray).data.toList = l0 from rfl, show (ByteArray.mk #[32, 58, 32]).data.toList = [32, 58, 32] from rfl] at HC1
    have HC1S := mk0 (cut_size l0 [32, 58, 32])
    clear hk g1
    generalize (Lib.cut l0 [32, 58, 32]).2.2 = b1 at *
    generalize (Lib.cut l0 [32, 58, 32]).2.1 = l1 at *
    generalize (Lib.cut l0 [32, 58, 32]).1 = n0 at *
    go_wp2_with fail
    refine (HC1.out).mono ?_
    rintro E w6 ⟨rfl, hb⟩
    have HF6 := mk0 ((HF.out).below hb)
    clear hb HF HC1
    have HC2 := mk0 (cut_calls ⟨l1.toArray⟩ ⟨#[32, 61, 32]⟩ w6 (by show l1.toArray.size ≤ 70000; rw [List.size_toArray]; have := HTL.out; have := HC1S.out; omega) ((HM.out).below (HF6.out).hb))
    rw [show (ByteArray.mk l1.toArray).data.toList = l1 from rfl, show (ByteArray.mk #[32, 61, 32]).data.toList = [32, 61, 32] from rfl] at HC2
    have HC2S := mk0 (cut_size l1 [32, 61, 32])
    generalize (Lib.cut l1 [32, 61, 32]).2.2 = b2 at *
    generalize (Lib.cut l1 [32, 61, 32]).2.1 = l2 at *
    generalize (Lib.cut l1 [32, 61, 32]).1 = so at *
    have HZO := mk0 (show (ByteArray.mk so.toArray).size ≤ 65536 from by show so.toArray.size ≤ 65536; rw [List.size_toArray]; have := HTL.out; have := (HC1S.out).2; have := (HC2S.out).1; omega)
    have HZN := mk0 (show (ByteArray.mk n0.toArray).size ≤ 65536 from by show n0.toArray.size ≤ 65536; rw [List.size_toArray]; have := HTL.out; have := (HC1S.out).1; omega)
    clear HTL HC1S HC2S
    go_wp2_with fail
    refine (HC2.out).mono ?_
    rintro E w7 ⟨rfl, hb⟩
    have HF7 := mk0 ((HF6.out).below hb)
    clear hb HF6 HC2
    generalize (ByteArray.mk n0.toArray) = nm at *
    generalize (ByteArray.mk so.toArray) = sb at *
    generalize (ByteArray.mk l2.toArray) = bt2 at *
    cases b0 with
    | false =>
     have HX := mk0 (HBAD.out (by rw [HLN.out, if_neg (fun x => l16_ x.1)]))
     go_wp2
     exact get3_panic HX.out (HF7.out).g _ rfl rfl
    | true =>
    cases b1 with
    | false =>
     have HX := mk0 (HBAD.out (by rw [HLN.out, if_neg (fun x => l16_ x.2.1)]))
     go_wp2
     exact get3_panic HX.out (HF7.out).g _ rfl rfl
    | true =>
    cases b2 with
    | false =>
     have HX := mk0 (HBAD.out (by rw [HLN.out, if_neg (fun x => l16_ x.2.2.1)]))
     go_wp2
     exact get3_panic HX.out (HF7.out).g _ rfl rfl
    | true =>
    have HNM := mk0 (name_calls nm w7)
    go_wp2_with fail
    refine (HNM.out).mono ?_
    rintro E w8 ⟨rfl, hb⟩
    have HF8 := mk0 ((HF7.out).below hb)
    clear hb HF7 HNM
    cases qn : nameB nm with
    | false =>
     have HX := mk0 (HBAD.out (by rw [HLN.out, if_neg (fun x => by rw [qn] at x; exact l16_ x.2.2.2)]))
     clear qn
     go_wp2
     exact get3_panic HX.out (HF8.out).g _ rfl rfl
    | true =>
    have HLN2 := mk0 (show lnStep G s = (if (getSR sb).1 = 4 then none else some { sy := G.sy, fs := G.fs ++ [⟨nm, (getSR sb).2, ⟨0, 0, []⟩⟩], bo := G.bo ++ [bt2], large := G.large || decide ((getSR sb).1 ≠ 0) }) by rw [HLN.out, if_pos ⟨by first | trivial | rfl, by first | trivial | rfl, by first | trivial | rfl, qn⟩])
    clear HLN qn
    have HGS := mk0 (gets_calls sb w8)
    unfold GetSE at HGS
    generalize (getSR sb).1 = er at *
    generalize (getSR sb).2 = srt at *
    go_wp2_with fail
    refine (HGS.out).mono ?_
    rintro E w9 ⟨A9, c9, rfl, hR, hb⟩
    have HF9 := mk0 ((HF8.out).below hb)
    have HR9 := mk0 (Kd.R_new' hR (Kd.R_lt (HF8.out).r2))
    have HSZ8 := mk0 (show B + 1 + 1 < w8.heap.size ∧ w.heap.size ≤ w8.heap.size from ⟨(HF8.out).lt, (HF8.out).hb.size⟩)
    have HSZ9 := mk0 hb.size
    clear hb hR HF8 HGS
    go_upto_region 26 with (fail)
    have bx := aA_ (Below.refl w9.heap.size w9) (.cells #[.slice A9 srt.f0.length c9] 47)
    have HX10 := mk0 (aS_ w9 (.cells #[.slice A9 srt.f0.length c9] 47))
    have HF10 := mk0 ((HF9.out).below bx)
    have HR10 := mk0 (Kd.R_lower (base' := w.heap.size) (Kd.R_mono (ok' := fun k => B + 1 + 1 < k ∧ some k ≠ (Value.slice A2 G.fs.length c2).ownBlock) (Kd.R_below HR9.out bx) (fun k hk => ⟨by have := HSZ8.out; omega, hk.2⟩)) (HSZ8.out).2)
    have HBX := mk0 (show B + 1 + 1 < w9.heap.size from by have := HSZ8.out; have := HSZ9.out; omega)
    clear bx HF9 HR9 HSZ8 HSZ9
    generalize (w9.alloc (.cells #[.slice A9 srt.f0.length c9] 47)) = w10 at *
    generalize w9.heap.size = bx at *
    by_cases h4 : er = 4
    ·have HX := mk0 (HBAD.out (by rw [HLN2.out, if_pos h4]))
     subst h4
     go_wp2
     exact get3_panic HX.out (HF10.out).g _ rfl rfl
    ·have HGO := mk0 (HLN2.out.trans (if_neg h4))
     have h4z : (er == 4) = false := by simpa using h4
     have HFSL := mk0 (show G.fs.length ≤ 70000 from by have := (HN.out).1; have := HLS.out; have := HIN.out; omega)
     clear HLN2 HBAD
     go_upto_region 28 with (fail)
     clear h4 h4z
     generalize hlv : (G.large || decide (er ≠ 0)) = lg at *
     have HLG := mk0 hlv
     clear hlv
     go_cut [7] from 57 to 178 (fun v7 wx => v7 = .bool lg ∧ wx = w10)
     case first =>
      cases hlg : G.large with
      | true =>
       go_wp2
       go_meet
       exact ⟨by rw [← HLG.out, hlg]; rfl, rfl⟩
      | false =>
       by_cases h0 : er = 0
       ·subst h0
        go_wp2
        go_meet
        exact ⟨by rw [← HLG.out, hlg]; rfl, rfl⟩
       ·have h0z : (er == 0) = false := by simpa using h0
        have h0y : (er != 0) = true := by simpa using h0
        go_wp2
        go_meet
        exact ⟨by rw [← HLG.out, hlg, l2_ h0]; rfl, rfl⟩
     case rest =>
     obtain ⟨e7, ew⟩ := hcut
     replace ew := ew.symm
     subst ew
     subst e7
     have hq1 := (HF10.out).rt.cells.2.2
     have HDOM := mk0 (show sdom nm from by unfold sdom maxLen; have := HZN.out; omega)
     have hl : (Instr.lookup 90 (.map (some (B + 1))) (.string nm) true).run Tryz.prog w10 = .ok (.tuple #[.int .i64 ((mget nm (nmE (G.fs.map (·.f0)))).getD 0), .bool (mget nm (nmE (G.fs.map (·.f0)))).isSome]) w10 := by
      have h := MapIs.look (HF10.out).m2 keyStr Tryz.underlying90 (zero3 w10) HDOM.out true
      rw [h]
      cases mget nm (nmE (G.fs.map (·.f0))) with
      | none => rfl
      | some v => rfl
     have HQN := mk0 (fun (h : (mget nm (nmE (G.fs.map (·.f0)))).isSome = false) => (show mget nm (nmE (G.fs.map (·.f0))) = none from by cases e : mget nm (nmE (G.fs.map (·.f0))) with | none => rfl | some v => rw [e] at h; cases h))
     have HQS := mk0 (fun (h : (mget nm (nmE (G.fs.map (·.f0)))).isSome = true) => (show ∃ v, mget nm (nmE (G.fs.map (·.f0))) = some v from Option.isSome_iff_exists.1 h))
     generalize (mget nm (nmE (G.fs.map (·.f0)))).isSome = bs at *
     generalize (mget nm (nmE (G.fs.map (·.f0)))).getD 0 = vs at *
     have HSN := mk0 (show (G.fs ++ [(⟨nm, srt, ⟨0, 0, []⟩⟩ : S52)]).map (·.f0) = G.fs.map (·.f0) ++ [nm] by simp)
     go_upto_if 158 with (fail)
     clear hq1 hl
     have HF11 := HF10
     have HX11 := HX10
     have HR11 := HR10
     clear HF10 HX10 HR10
     generalize w10 = w11 at *
     go_cut [] from 57 to 178 (fun wx => Aside0 (FL w wx L bl B (B + 1) (B + 1 + 1) [] G.sy G.fs G.bo (nmE (G.sy.map (·.f0))) (nmE ((G.fs ++ [(⟨nm, srt, ⟨0, 0, []⟩⟩ : S52)]).map (·.f0))) A1 c1 A2 c2 A3 c3) ∧ Aside0 (wx.heap[bx]? = some (.cells #[.slice A9 srt.f0.length c9] 47 (0, 0))) ∧ Aside0 (Kd.R k47 47 wx w.heap.size (fun k => B + 1 + 1 < k ∧ some k ≠ (Value.slice A2 G.fs.length c2).ownBlock) (.slice A9 srt.f0.length c9) srt.f0))
     case first =>
      cases bs with
      | true =>
       obtain ⟨v, hv⟩ := HQS.out rfl
       have HKE := mk0 (nmE_keep hv)
       rw [← HSN.out] at HKE
       have HF12 := HF11.out
       rw [HKE.out] at HF12
       have HF12 := mk0 HF12
       clear hv
       go_wp2
       go_meet
       exact ⟨HF12, HX11, HR11⟩
      | false =>
       have HQM := mk0 (HQN.out rfl)
       go_upto_region 31 with (fail)
       have hq1 := (HF11.out).rt.cells.2.2
       have d0 := (HF11.out).g.cells.2.1
       refine wp_region_still_tail 8 (by kernel_rfl) (by kernel_rfl) ?_
       simp only [List.take_succ_cons, List.take_zero, List.drop_succ_cons, List.drop_zero]
       repeat (refine wpStill_step (fun K hK => ?_); go_simp; refine hK _ ?_; clear hK K)
       refine wpStill_nil ?_
       change wpList _ _ _ _ _ w11.drew
       clear hq1 d0
       have HF7d := mk0 ((HF11.out).below (below_drew (Below.refl _ _)))
       have HX7d := mk0 (aJ_ HX11.out (below_drew (Below.refl _ _)))
       have HR7d := mk0 (Kd.R_below HR11.out (below_drew (Below.refl _ _)))
       clear HF11 HX11 HR11
       generalize w11.drew = w7d at *
       obtain ⟨W8, hput, hm8, hg8⟩ := MapIs.put (HF7d.out).m2 keyStr Tryz.underlying90 HDOM.out (G.fs.length : Int)
       rw [show (G.fs.length : Int) = ((G.fs.map (·.f0)).length : Int) by rw [List.length_map], nmE_put HQM.out, ← HSN.out] at hm8
       unfold ki at hput
       have HF8 := mk0 ((HF7d.out).put2 hm8 hg8)
       have HX8 := mk0 (aU_ HX7d.out hg8 (fun e => by have := l13_ e; have := HBX.out; omega))
       have HR8 := mk0 (Kd.R_grown HR7d.out hg8 (fun k hk e => by have := l13_ e; have := hk.1; omega))
       clear hm8 hg8 HF7d HX7d HR7d
       go_wp2
       go_meet
       exact ⟨HF8, HX8, HR8⟩
     case rest =>
     clear HF11 HX11 HR11 HQN HQS
     obtain ⟨HF12, HX12, HR12⟩ := hcut
     generalize wc = wx at *
     have x0 : wx.cell? ⟨bx, 0, none⟩ = some (.slice A9 srt.f0.length c9) := (aC_ HX12.out 0).trans rfl
     have d1 := (HF12.out).g.cells.2.1
     have HLE7 := mk0 (show (G.fs.length + 1) * 80 ≤ 140737488355328 by have := HFSL.out; omega)
     have HLE8 := mk0 (show (G.bo.length + 1) * 16 ≤ 140737488355328 by have := HFSL.out; have := (HN.out).2; omega)
     have hbx0 := HBX.out
     clear HX12
     go_wp2_with (first
      | ((with_reducible refine gate_builtin (b := .append) (xs := #[.tmp 168, .tmp 172]) rfl ?_); at_builtin; refine Kd.R_append k52 (w0 := w) w.heap.size rfl (.tmp 168) (.tmp 172) 23 52 (.agg #[.string ⟨#[]⟩, .slice none 0 0, .int .i64 0, .int .i64 0, .slice none 0 0]) 80 rfl Tryz.underlying23 Q.info52 rfl (show 0 < 5 by decide) (by decide) (.slice A2 G.fs.length c2) G.fs ⟨nm, srt, ⟨0, 0, []⟩⟩ [.string nm, .slice A9 srt.f0.length c9, .int .i64 0, .int .i64 0, .slice none 0 0] (fun k => B + 1 + 1 < k) (fun k => B + 1 + 1 < k ∧ some k ≠ (Value.slice A2 G.fs.length c2).ownBlock) rfl rfl (Q.k52_mkM _ _ _ ⟨nm, srt, ⟨0, 0, []⟩⟩ HR12.out (Kd.R_nil _ _ _ _ _)) (fun _ hk => hk) (fun k hk => l12_ (HF12.out).lt hk) (HF12.out).r2 (HF12.out).hb (HF12.out).hb.size HLE7.out ?_; intro v13 w13 ho5 hb5 hg5 hat5; (obtain ⟨A5, c5, rfl⟩ := Kd.R_slice ho5); have HF13 := mk0 ((HF12.out).push2 ho5 hb5 hg5); have hGG := (HF12.out).g.grown hb5 hg5 (fun k hk => by have := (HF12.out).r2.1 k hk; have := (HF12.out).n; omega); have c6 := hGG.cells.2.1; have f6 := hGG.frozen.2.1; clear hGG ho5 hb5 hg5 hat5)
      | ((with_reducible refine gate_builtin (b := .append) (xs := #[.tmp 175, .tmp 177]) rfl ?_); at_builtin; refine Kd.R_append Kd.string (w0 := w) w.heap.size rfl (.tmp 175) (.tmp 177) 87 9 (.string ⟨#[]⟩) 16 rfl Tryz.underlying87 info9 rfl (show 0 < 1 by decide) (by decide) (.slice A3 G.bo.length c3) G.bo bt2 [.string bt2] (fun k => B + 1 + 1 < k) (fun _ => False) rfl (by first | rfl | (show Value.slice (some ⟨w13.heap.size, 0, none⟩) 1 1 = _; simp; done) | (show Value.slice (some ⟨w13.heap.size, 0, none⟩) 1 1 = _; simp [World.setCell]; done)) rfl (fun _ hk => hk.elim) (fun k hk => l12_ (HF13.out).lt hk) (HF13.out).r3 (HF13.out).hb (HF13.out).hb.size HLE8.out ?_; intro v15 w15 ho5 hb5 hg5 hat5; (obtain ⟨A6, c6, rfl⟩ := Kd.R_slice ho5); have HF15 := mk0 ((HF13.out).push3 ho5 hb5 hg5); clear ho5 hb5 hg5 hat5)
      | fail)
     go_roundg (n - (i + 1))
     case measure => have := HIN.out; omega
     case rel => exact ⟨i + 1, { sy := G.sy, fs := G.fs ++ [⟨nm, srt, ⟨0, 0, []⟩⟩], bo := G.bo ++ [bt2], large := lg }, A1, c1, A5, c5, A6, c6, HIN.out, Nat.le_refl _, by show _ = Value.slice A6 (G.bo ++ [bt2]).length c6; rw [l7_]; rfl, rfl, by rw [HKZ.out], ⟨HSTEP.out.trans HGO.out⟩, ⟨by show G.sy.length + (G.fs ++ [_]).length = i + 1; have := (HN.out).1; rw [l7_, l10_]; omega, by show (G.bo ++ [bt2]).length = (G.fs ++ [_]).length; have := (HN.out).2; rw [l7_, l7_, l10_, l10_]; omega⟩, HF15⟩
  ·obtain rfl : n = i := by omega
   have HVV := mk0 (HV3.out HLE.out G HG.out)
   have HLS2 := mk0 (show G.bo.length ≤ 70000 from by have := (HN.out).1; have := (HN.out).2; have := HLS.out; omega)
   have HNB := mk0 (HN.out).2
   have HBZ := mk0 (lnAll_bo (m := 65536) _ _ _ (fun s hs => by
    obtain ⟨q, hq, rfl⟩ := List.getElem_of_mem (List.mem_of_mem_take hs)
    have h1 := HCS.out q
    rw [l18_, l17_ hq] at h1
    have := HSZ.out
    simp only [Option.getD_some] at h1
    omega) (by simp) HG.out)
   clear HV1 HV2 HV3 HG HN hi hgg hlt HCS HLEE HLE HLL HLT hmf
   go_wp2
   go_loopg [182] G.bo.length (fun gg v182 wi => ∃ (j : Nat) (dn : List S52), j ≤ G.bo.length ∧ G.bo.length - j ≤ gg ∧ v182 = .int .i64 j ∧ Aside0 (dn.length = j) ∧ Aside0 (boAll (nmE (G.sy.map (·.f0))) (nmE (G.fs.map (·.f0))) G.fs G.bo = (boAll (nmE (G.sy.map (·.f0))) (nmE (G.fs.map (·.f0))) (G.fs.drop j) (G.bo.drop j)).map (dn ++ ·)) ∧ Aside0 (FL w wi L bl B (B + 1) (B + 1 + 1) [] G.sy (dn ++ G.fs.drop j) G.bo (nmE (G.sy.map (·.f0))) (nmE (G.fs.map (·.f0))) A1 c1 A2 c2 A3 c3))
   case atStart => exact ⟨0, [], Nat.zero_le _, Nat.le_refl _, rfl, ⟨rfl⟩, ⟨by simp⟩, HF⟩
   case round =>
    clear HF
    obtain ⟨j, dn, hj, hgg, rfl, HDN, HBO, HF⟩ := hrel
    by_cases hlt : j < G.bo.length
    ·have hltz : (j : Int) < (G.bo.length : Int) := by omega
     have HLT := mk0 hlt
     have HNX := mk0 (boAll_next (e1 := nmE (G.sy.map (·.f0))) (e2 := nmE (G.fs.map (·.f0))) hlt HNB.out HDN.out)
     have HSX := mk0 (fun x => set_next (fs := G.fs) HDN.out (by have := HNB.out; omega) x)
     have HGX := mk0 (get_next (fs := G.fs) HDN.out (by have := HNB.out; omega))
     have HFLN := mk0 (show (dn ++ G.fs.drop j).length = G.fs.length by have := HDN.out; have := HNB.out; rw [l7_, l9_]; omega)
     have HKZ := mk0 (show wrap64 ((j : Int) + 1) = ((j + 1 : Nat) : Int) by rw [wr_id (by omega) (by have := HLS2.out; omega)]; rfl)
     have HBS := mk0 (show (G.bo.getD j ByteArray.empty).size ≤ 65536 from (HBZ.out) _ (by rw [l18_, l17_ hlt]; exact l11_ hlt))
     obtain ⟨g3, cap3, e3, _⟩ := Kd.R_form (HF.out).r3 (show 0 < G.bo.length by omega)
     injection e3 with e31 _ e33
     subst e31
     subst e33
     have hk : wr.cell? ⟨g3, j, none⟩ = some (.string (G.bo.getD j ByteArray.empty)) := (Kd.R_celln ByteArray.empty (HF.out).r3 (j : Int) (by omega) hltz).1
     generalize G.bo.getD j ByteArray.empty = bj at *
     have hdl : 0 < (dn ++ G.fs.drop j).length := by have := HFLN.out; have := HNB.out; omega
     obtain ⟨g2, cap2, e2, _⟩ := Kd.R_form (HF.out).r2 hdl
     injection e2 with e21 _ e23
     subst e21
     subst e23
     generalize hF0 : dn ++ G.fs.drop j = F at *
     have hb0 := (HF.out).rt.cells.1.1
     have hb1 := (HF.out).rt.cells.1.2
     go_upto_region 39 with (fail)
     have HF2 := mk0 ((HF.out).setT bj)
     clear hb0 hb1 hk hdl HF
     generalize wr.setCell ⟨B + 1 + 1, 0, none⟩ (.string bj) = w5 at *
     have hd := below_drew (Below.refl w5.heap.size w5)
     have HFD := mk0 ((HF2.out).below hd)
     have HTM := mk0 (rtm_calls (B + 1 + 1) B (B + 1) (nmE (G.sy.map (·.f0))) (nmE (G.fs.map (·.f0))) 70000 bj.data.toList w5.drew (by rw [← Lib.size_eq]; have := HBS.out; omega) (Nat.le_refl _) (HFD.out).rm)
     have HOLD := mk0 (HF2.out).g.cells.2.1
     cases qt : tmR (nmE (G.sy.map (·.f0))) (nmE (G.fs.map (·.f0))) bj.data.toList with
     | none =>
      have HX := mk0 (getR3_bad HSZ.out (HVV.out.trans (by rw [HBO.out, HNX.out, qt]; rfl)))
      have HC := mk0 ((HTM.out).mono (R' := fun E w' => E = pwrong ∧ KR (B + 1 + 1) w5.drew w') (fun E w' hE => by
       obtain ⟨hk, ⟨_, rfl⟩ | ⟨t4, r4, v4, hv, _⟩⟩ := hE
       ·exact ⟨rfl, hk⟩
       ·rw [qt] at hv; cases hv))
      clear qt HTM
      unfold pwrong at HC
      have d1 := (HF2.out).g.cells.2.1
      have d2 := aT_ hd d1
      clear hd
      refine wp_region_any (by kernel_rfl) ?_
      change wpAny _ _ _ _ _ _ _ (World.drew _)
      refine wpAny_ready (rs := [0, 2, 3]) (by kernel_rfl) (by simp) ?_
      refine AllReady.cons rfl (fun K hK => ?_) ?_
      ·go_simp
       refine hK _ _ ?_
       clear hK K
       refine wpAny_ready (rs := [1, 2, 3]) (by kernel_rfl) (by simp) ?_
       refine AllReady.cons rfl (fun K hK => ?_) ?_
       ·go_simp
        refine hK _ _ ?_
        clear hK K
        refine wpAny_ready (rs := [2, 3]) (by kernel_rfl) (by simp) ?_
        refine AllReady.cons rfl (fun K hK => ?_) ?_
        ·go_simp
         refine hK _ _ ?_
         clear hK K
         refine wpAny_ready (rs := [3]) (by kernel_rfl) (by simp) ?_
         refine AllReady.cons rfl (fun K hK => ?_) ?_
         ·go_simp
          refine hK _ _ ?_
          clear hK K
          refine wpAny_ready (rs := [4]) (by kernel_rfl) (by simp) ?_
          refine AllReady.cons rfl (fun K hK => ?_) ?_
          ·go_simp
           go_wp2_with (go_at_call 60; refine (HC.out).mono ?_; rintro E w8 ⟨rfl, hk⟩; exact get3_panic HX.out ((HFD.out).gone hk) _ rfl rfl)
          exact AllReady.nil
         exact AllReady.nil
        refine AllReady.cons rfl (fun K hK => ?_) ?_
        ·go_simp
         refine hK _ _ ?_
         clear hK K
         refine wpAny_ready (rs := [2, 4]) (by kernel_rfl) (by simp) ?_
         refine AllReady.cons rfl (fun K hK => ?_) ?_
         ·go_simp
          refine hK _ _ ?_
          clear hK K
          refine wpAny_ready (rs := [4]) (by kernel_rfl) (by simp) ?_
          refine AllReady.cons rfl (fun K hK => ?_) ?_
          ·go_simp
           go_wp2_with (go_at_call 60; refine (HC.out).mono ?_; rintro E w8 ⟨rfl, hk⟩; exact get3_panic HX.out ((HFD.out).gone hk) _ rfl rfl)
          exact AllReady.nil
         refine AllReady.cons rfl (fun K hK => ?_) ?_
         ·go_simp
          go_wp2_with (go_at_call 60; refine (HC.out).mono ?_; rintro E w8 ⟨rfl, hk⟩; exact get3_panic HX.out ((HFD.out).gone hk) _ rfl rfl)
         exact AllReady.nil
        exact AllReady.nil
       refine AllReady.cons rfl (fun K hK => ?_) ?_
       ·go_simp
        refine hK _ _ ?_
        clear hK K
        refine wpAny_ready (rs := [1, 3]) (by kernel_rfl) (by simp) ?_
        refine AllReady.cons rfl (fun K hK => ?_) ?_
        ·go_simp
         refine hK _ _ ?_
         clear hK K
         refine wpAny_ready (rs := [3]) (by kernel_rfl) (by simp) ?_
         refine AllReady.cons rfl (fun K hK => ?_) ?_
         ·go_simp
          refine hK _ _ ?_
          clear hK K
          refine wpAny_ready (rs := [4]) (by kernel_rfl) (by simp) ?_
          refine AllReady.cons rfl (fun K hK => ?_) ?_
          ·go_simp
           go_wp2_with (go_at_call 60; refine (HC.out).mono ?_; rintro E w8 ⟨rfl, hk⟩; exact get3_panic HX.out ((HFD.out).gone hk) _ rfl rfl)
          exact AllReady.nil
         exact AllReady.nil
        refine AllReady.cons rfl (fun K hK => ?_) ?_
        ·go_simp
         refine hK _ _ ?_
         clear hK K
         refine wpAny_ready (rs := [1, 4]) (by kernel_rfl) (by simp) ?_
         refine AllReady.cons rfl (fun K hK => ?_) ?_
         ·go_simp
          refine hK _ _ ?_
          clear hK K
          refine wpAny_ready (rs := [4]) (by kernel_rfl) (by simp) ?_
          refine AllReady.cons rfl (fun K hK => ?_) ?_
          ·go_simp
           go_wp2_with (go_at_call 60; refine (HC.out).mono ?_; rintro E w8 ⟨rfl, hk⟩; exact get3_panic HX.out ((HFD.out).gone hk) _ rfl rfl)
          exact AllReady.nil
         refine AllReady.cons rfl (fun K hK => ?_) ?_
         ·go_simp
          go_wp2_with (go_at_call 60; refine (HC.out).mono ?_; rintro E w8 ⟨rfl, hk⟩; exact get3_panic HX.out ((HFD.out).gone hk) _ rfl rfl)
         exact AllReady.nil
        exact AllReady.nil
       refine AllReady.cons rfl (fun K hK => ?_) ?_
       ·go_simp
        refine hK _ _ ?_
        clear hK K
        refine wpAny_ready (rs := [1, 2, 4]) (by kernel_rfl) (by simp) ?_
        refine AllReady.cons rfl (fun K hK => ?_) ?_
        ·go_simp
         refine hK _ _ ?_
         clear hK K
         refine wpAny_ready (rs := [2, 4]) (by kernel_rfl) (by simp) ?_
         refine AllReady.cons rfl (fun K hK => ?_) ?_
         ·go_simp
          refine hK _ _ ?_
          clear hK K
          refine wpAny_ready (rs := [4]) (by kernel_rfl) (by simp) ?_
          refine AllReady.cons rfl (fun K hK => ?_) ?_
          ·go_simp
           go_wp2_with (go_at_call 60; refine (HC.out).mono ?_; rintro E w8 ⟨rfl, hk⟩; exact get3_panic HX.out ((HFD.out).gone hk) _ rfl rfl)
          exact AllReady.nil
         refine AllReady.cons rfl (fun K hK => ?_) ?_
         ·go_simp
          go_wp2_with (go_at_call 60; refine (HC.out).mono ?_; rintro E w8 ⟨rfl, hk⟩; exact get3_panic HX.out ((HFD.out).gone hk) _ rfl rfl)
         exact AllReady.nil
        refine AllReady.cons rfl (fun K hK => ?_) ?_
        ·go_simp
         refine hK _ _ ?_
         clear hK K
         refine wpAny_ready (rs := [1, 4]) (by kernel_rfl) (by simp) ?_
         refine AllReady.cons rfl (fun K hK => ?_) ?_
         ·go_simp
          refine hK _ _ ?_
          clear hK K
          refine wpAny_ready (rs := [4]) (by kernel_rfl) (by simp) ?_
          refine AllReady.cons rfl (fun K hK => ?_) ?_
          ·go_simp
           go_wp2_with (go_at_call 60; refine (HC.out).mono ?_; rintro E w8 ⟨rfl, hk⟩; exact get3_panic HX.out ((HFD.out).gone hk) _ rfl rfl)
          exact AllReady.nil
         refine AllReady.cons rfl (fun K hK => ?_) ?_
         ·go_simp
          go_wp2_with (go_at_call 60; refine (HC.out).mono ?_; rintro E w8 ⟨rfl, hk⟩; exact get3_panic HX.out ((HFD.out).gone hk) _ rfl rfl)
         exact AllReady.nil
        refine AllReady.cons rfl (fun K hK => ?_) ?_
        ·go_simp
         go_wp2_with (go_at_call 60; refine (HC.out).mono ?_; rintro E w8 ⟨rfl, hk⟩; exact get3_panic HX.out ((HFD.out).gone hk) _ rfl rfl)
        exact AllReady.nil
       exact AllReady.nil
      refine AllReady.cons rfl (fun K hK => ?_) ?_
      ·go_simp
       refine hK _ _ ?_
       clear hK K
       refine wpAny_ready (rs := [0, 3]) (by kernel_rfl) (by simp) ?_
       refine AllReady.cons rfl (fun K hK => ?_) ?_
       ·go_simp
        refine hK _ _ ?_
        clear hK K
        refine wpAny_ready (rs := [1, 3]) (by kernel_rfl) (by simp) ?_
        refine AllReady.cons rfl (fun K hK => ?_) ?_
        ·go_simp
         refine hK _ _ ?_
         clear hK K
         refine wpAny_ready (rs := [3]) (by kernel_rfl) (by simp) ?_
         refine AllReady.cons rfl (fun K hK => ?_) ?_
         ·go_simp
          refine hK _ _ ?_
          clear hK K
          refine wpAny_ready (rs := [4]) (by kernel_rfl) (by simp) ?_
          refine AllReady.cons rfl (fun K hK => ?_) ?_
          ·go_simp
           go_wp2_with (go_at_call 60; refine (HC.out).mono ?_; rintro E w8 ⟨rfl, hk⟩; exact get3_panic HX.out ((HFD.out).gone hk) _ rfl rfl)
          exact AllReady.nil
         exact AllReady.nil
        refine AllReady.cons rfl (fun K hK => ?_) ?_
        ·go_simp
         refine hK _ _ ?_
         clear hK K
         refine wpAny_ready (rs := [1, 4]) (by kernel_rfl) (by simp) ?_
         refine AllReady.cons rfl (fun K hK => ?_) ?_
         ·go_simp
          refine hK _ _ ?_
          clear hK K
          refine wpAny_ready (rs := [4]) (by kernel_rfl) (by simp) ?_
          refine AllReady.cons rfl (fun K hK => ?_) ?_
          ·go_simp
           go_wp2_with (go_at_call 60; refine (HC.out).mono ?_; rintro E w8 ⟨rfl, hk⟩; exact get3_panic HX.out ((HFD.out).gone hk) _ rfl rfl)
          exact AllReady.nil
         refine AllReady.cons rfl (fun K hK => ?_) ?_
         ·go_simp
          go_wp2_with (go_at_call 60; refine (HC.out).mono ?_; rintro E w8 ⟨rfl, hk⟩; exact get3_panic HX.out ((HFD.out).gone hk) _ rfl rfl)
         exact AllReady.nil
        exact AllReady.nil
       refine AllReady.cons rfl (fun K hK => ?_) ?_
       ·go_simp
        refine hK _ _ ?_
        clear hK K
        refine wpAny_ready (rs := [0, 4]) (by kernel_rfl) (by simp) ?_
        refine AllReady.cons rfl (fun K hK => ?_) ?_
        ·go_simp
         refine hK _ _ ?_
         clear hK K
         refine wpAny_ready (rs := [1, 4]) (by kernel_rfl) (by simp) ?_
         refine AllReady.cons rfl (fun K hK => ?_) ?_
         ·go_simp
          refine hK _ _ ?_
          clear hK K
          refine wpAny_ready (rs := [4]) (by kernel_rfl) (by simp) ?_
          refine AllReady.cons rfl (fun K hK => ?_) ?_
          ·go_simp
           go_wp2_with (go_at_call 60; refine (HC.out).mono ?_; rintro E w8 ⟨rfl, hk⟩; exact get3_panic HX.out ((HFD.out).gone hk) _ rfl rfl)
          exact AllReady.nil
         refine AllReady.cons rfl (fun K hK => ?_) ?_
         ·go_simp
          go_wp2_with (go_at_call 60; refine (HC.out).mono ?_; rintro E w8 ⟨rfl, hk⟩; exact get3_panic HX.out ((HFD.out).gone hk) _ rfl rfl)
         exact AllReady.nil
        refine AllReady.cons rfl (fun K hK => ?_) ?_
        ·go_simp
         go_wp2_with (go_at_call 60; refine (HC.out).mono ?_; rintro E w8 ⟨rfl, hk⟩; exact get3_panic HX.out ((HFD.out).gone hk) _ rfl rfl)
        exact AllReady.nil
       exact AllReady.nil
      refine AllReady.cons rfl (fun K hK => ?_) ?_
      ·go_simp
       refine hK _ _ ?_
       clear hK K
       refine wpAny_ready (rs := [0, 2, 4]) (by kernel_rfl) (by simp) ?_
       refine AllReady.cons rfl (fun K hK => ?_) ?_
       ·go_simp
        refine hK _ _ ?_
        clear hK K
        refine wpAny_ready (rs := [1, 2, 4]) (by kernel_rfl) (by simp) ?_
        refine AllReady.cons rfl (fun K hK => ?_) ?_
        ·go_simp
         refine hK _ _ ?_
         clear hK K
         refine wpAny_ready (rs := [2, 4]) (by kernel_rfl) (by simp) ?_
         refine AllReady.cons rfl (fun K hK => ?_) ?_
         ·go_simp
          refine hK _ _ ?_
          clear hK K
          refine wpAny_ready (rs := [4]) (by kernel_rfl) (by simp) ?_
          refine AllReady.cons rfl (fun K hK => ?_) ?_
          ·go_simp
           go_wp2_with (go_at_call 60; refine (HC.out).mono ?_; rintro E w8 ⟨rfl, hk⟩; exact get3_panic HX.out ((HFD.out).gone hk) _ rfl rfl)
          exact AllReady.nil
         refine AllReady.cons rfl (fun K hK => ?_) ?_
         ·go_simp
          go_wp2_with (go_at_call 60; refine (HC.out).mono ?_; rintro E w8 ⟨rfl, hk⟩; exact get3_panic HX.out ((HFD.out).gone hk) _ rfl rfl)
         exact AllReady.nil
        refine AllReady.cons rfl (fun K hK => ?_) ?_
        ·go_simp
         refine hK _ _ ?_
         clear hK K
         refine wpAny_ready (rs := [1, 4]) (by kernel_rfl) (by simp) ?_
         refine AllReady.cons rfl (fun K hK => ?_) ?_
         ·go_simp
          refine hK _ _ ?_
          clear hK K
          refine wpAny_ready (rs := [4]) (by kernel_rfl) (by simp) ?_
          refine AllReady.cons rfl (fun K hK => ?_) ?_
          ·go_simp
           go_wp2_with (go_at_call 60; refine (HC.out).mono ?_; rintro E w8 ⟨rfl, hk⟩; exact get3_panic HX.out ((HFD.out).gone hk) _ rfl rfl)
          exact AllReady.nil
         refine AllReady.cons rfl (fun K hK => ?_) ?_
         ·go_simp
          go_wp2_with (go_at_call 60; refine (HC.out).mono ?_; rintro E w8 ⟨rfl, hk⟩; exact get3_panic HX.out ((HFD.out).gone hk) _ rfl rfl)
         exact AllReady.nil
        refine AllReady.cons rfl (fun K hK => ?_) ?_
        ·go_simp
         go_wp2_with (go_at_call 60; refine (HC.out).mono ?_; rintro E w8 ⟨rfl, hk⟩; exact get3_panic HX.out ((HFD.out).gone hk) _ rfl rfl)
        exact AllReady.nil
       refine AllReady.cons rfl (fun K hK => ?_) ?_
       ·go_simp
        refine hK _ _ ?_
        clear hK K
        refine wpAny_ready (rs := [0, 4]) (by kernel_rfl) (by simp) ?_
        refine AllReady.cons rfl (fun K hK => ?_) ?_
        ·go_simp
         refine hK _ _ ?_
         clear hK K
         refine wpAny_ready (rs := [1, 4]) (by kernel_rfl) (by simp) ?_
         refine AllReady.cons rfl (fun K hK => ?_) ?_
         ·go_simp
          refine hK _ _ ?_
          clear hK K
          refine wpAny_ready (rs := [4]) (by kernel_rfl) (by simp) ?_
          refine AllReady.cons rfl (fun K hK => ?_) ?_
          ·go_simp
           go_wp2_with (go_at_call 60; refine (HC.out).mono ?_; rintro E w8 ⟨rfl, hk⟩; exact get3_panic HX.out ((HFD.out).gone hk) _ rfl rfl)
          exact AllReady.nil
         refine AllReady.cons rfl (fun K hK => ?_) ?_
         ·go_simp
          go_wp2_with (go_at_call 60; refine (HC.out).mono ?_; rintro E w8 ⟨rfl, hk⟩; exact get3_panic HX.out ((HFD.out).gone hk) _ rfl rfl)
         exact AllReady.nil
        refine AllReady.cons rfl (fun K hK => ?_) ?_
        ·go_simp
         go_wp2_with (go_at_call 60; refine (HC.out).mono ?_; rintro E w8 ⟨rfl, hk⟩; exact get3_panic HX.out ((HFD.out).gone hk) _ rfl rfl)
        exact AllReady.nil
       refine AllReady.cons rfl (fun K hK => ?_) ?_
       ·go_simp
        go_wp2_with (go_at_call 60; refine (HC.out).mono ?_; rintro E w8 ⟨rfl, hk⟩; exact get3_panic HX.out ((HFD.out).gone hk) _ rfl rfl)
       exact AllReady.nil
      exact AllReady.nil
     | some p =>
      obtain ⟨tt, r⟩ := p
      rw [qt] at HNX
      have HC : Aside0 (Calls Tryz.prog 60 #[.pointer (some ⟨B + 1 + 1, 0, none⟩)] w5.drew fun E w' => ∃ A7 c7, E = .returned (.agg #[.int .i64 tt.f0, .int .i64 tt.f1, .slice A7 tt.f2.length c7]) ∧ Kd.R k50 50 w' w5.drew.heap.size (fun k => w5.drew.heap.size ≤ k) (.slice A7 tt.f2.length c7) tt.f2 ∧ RT (B + 1 + 1) r (.map (some B)) (.map (some (B + 1))) w' ∧ KR (B + 1 + 1) w5.drew w') := ⟨(HTM.out).mono fun E w' hE => by
       obtain ⟨hk, ⟨h0, _⟩ | ⟨t4, r4, v4, hv, rfl, hR, hr⟩⟩ := hE
       ·rw [qt] at h0; cases h0
       ·rw [qt] at hv
        cases hv
        obtain ⟨A7, c7, rfl⟩ := Kd.R_slice hR
        exact ⟨A7, c7, rfl, hR, hr, hk⟩⟩
      clear qt HTM
      have d1 := (HF2.out).g.cells.2.1
      have d2 := aT_ hd d1
      have HGT := mk0 (show B + 1 + 1 < w5.drew.heap.size ∧ w.heap.size ≤ w5.drew.heap.size from ⟨(HFD.out).lt, (HFD.out).hb.size⟩)
      have HJF := mk0 (show j < F.length by have := HFLN.out; have := HNB.out; have := HLT.out; omega)
      have hjz : (j : Int) < (F.length : Int) := by have := HJF.out; omega
      clear hd
      refine wp_region_noPanic ?_
      go_region_law (first
       | (go_simp; go_at_call 60; refine (HC.out).mono ?_; rintro E w8 ⟨A7, c7, rfl, hR, hr, hk⟩; have HF8 := mk0 ((HFD.out).call hk hr); have HR8 := mk0 (Kd.R_lower (base' := w.heap.size) (Kd.R_mono (ok' := fun k => B + 1 + 1 < k ∧ k ≠ g2) (Kd.R_new' hR (Kd.R_lt (HFD.out).r2)) (fun k hk => ⟨by have := (HGT.out).1; omega, fun e => hk.2 (by rw [e]; rfl)⟩)) (HGT.out).2); have hbc := body_cells (HF8.out).r2 HJF.out; (obtain ⟨⟨x0, y0, z0, hx0, hy0, hz0⟩, fx0, fy0, fz0⟩ := hbc); have HRB := mk0 (row_body (HF8.out).r2 HJF.out tt HR8.out (fun k hk => hk)); have d3 := (HF8.out).g.cells.2.1; clear hk hr hR)
       | fail)
      all_goals
       refine NoPanic.normal ?_
       rw [show ((w8.setCell ⟨g2, j * 5 + 2, none⟩ (.int .i64 tt.f0)).setCell ⟨g2, j * 5 + 2 + 1, none⟩ (.int .i64 tt.f1)).setCell ⟨g2, j * 5 + 2 + 2, none⟩ (.slice A7 tt.f2.length c7) = w8.setCells g2 (j * 5 + 2) [.int .i64 tt.f0, .int .i64 tt.f1, .slice A7 tt.f2.length c7] from rfl]
       have HFS := (HF8.out).stored (by rw [List.length_set]) (HRB.out).1 (HRB.out).2
       rw [HSX.out, HGX.out] at HFS
       have HFS := mk0 HFS
       clear hx0 hy0 hz0 fx0 fy0 fz0 d1 d2 d3 HRB HF8 HR8 HC HFD HF2
       generalize (w8.setCells g2 (j * 5 + 2) [.int .i64 tt.f0, .int .i64 tt.f1, .slice A7 tt.f2.length c7]) = w9 at *
       have hb0 := (HFS.out).rt.cells.1.1
       obtain ⟨sr, hsr⟩ : ∃ sr : ByteArray, sr = ⟨r.toArray⟩ := ⟨_, rfl⟩
       rw [← hsr] at hb0
       have HSR := mk0 (show sr.data.toList = r by rw [hsr])
       clear hsr
       cases q9 : sr.toList.isEmpty with
       | false =>
        have HNE := mk0 (show r ≠ [] from fun e => by rw [Lib.toList_data, HSR.out, e] at q9; cases q9)
        have HX := mk0 (getR3_bad HSZ.out (HVV.out.trans (by rw [HBO.out, HNX.out]; simp only [l23_]; rw [if_neg HNE.out]; rfl)))
        go_wp2
        exact get3_panic HX.out (HFS.out).g _ rfl rfl
       | true =>
        have HNE := mk0 (show r = [] from by rw [Lib.toList_data, HSR.out] at q9; exact List.isEmpty_iff.1 q9)
        have HBN := mk0 (show boAll (nmE (G.sy.map (·.f0))) (nmE (G.fs.map (·.f0))) G.fs G.bo = (boAll (nmE (G.sy.map (·.f0))) (nmE (G.fs.map (·.f0))) (G.fs.drop (j + 1)) (G.bo.drop (j + 1))).map ((dn ++ [⟨(G.fs.getD j z52).f0, (G.fs.getD j z52).f1, tt⟩]) ++ ·) from by
         rw [HBO.out, HNX.out]
         simp only [l23_]
         rw [if_pos HNE.out, Option.map_map]
         congr 1
         funext l
         simp)
        have HFT := HFS.out
        rw [HNE.out] at HFT
        have HFT := mk0 HFT
        go_wp2
        go_roundg (G.bo.length - (j + 1))
        case measure => have := HLT.out; omega
        case rel => exact ⟨j + 1, dn ++ [⟨(G.fs.getD j z52).f0, (G.fs.getD j z52).f1, tt⟩], HLT.out, Nat.le_refl _, by rw [HKZ.out], ⟨by rw [l7_, HDN.out]; rfl⟩, HBN, HFT⟩
    ·obtain rfl : j = G.bo.length := by omega
     have HVF := mk0 (show getV3 t = some (G.sy, dn, G.large) from by rw [HVV.out, HBO.out, boAll_end HNB.out]; simp)
     have HF2 := HF.out
     rw [l15_ (show G.fs.length ≤ G.bo.length from Nat.le_of_eq HNB.out.symm), List.append_nil] at HF2
     have HF2 := mk0 HF2
     clear HF HBO HVV HDN hlt hj hgg HBZ
     have HCK := mk0 (scheme_calls G.sy dn A1 A2 c1 c2 wr (Kd.R_reads' (HF2.out).r1).2.2 (Kd.R_reads' (HF2.out).r2).2.2)
     obtain ⟨p0, p1, p3⟩ := (HF2.out).g.cells
     obtain ⟨f0, f1, f3⟩ := (HF2.out).g.frozen
     cases qL : G.large with
     | true =>
      have HRR := mk0 (show getR3 t = (7, [], []) by unfold getR3; rw [if_neg (by have := HSZ.out; omega), HVF.out]; simp only; rw [if_pos (.inl qL)])
      have HFI := mk0 ((HF2.out).fin (.slice none 0 0) (.slice none 0 0) (.int .i64 7))
      go_wp2
      obtain ⟨_, k1, k2, k3⟩ := HFI.out
      exact get3_done (A1 := none) (A2 := none) (c1 := 0) (c2 := 0) (sy := []) (fs := []) HRR.out k1 k2 k3 ⟨rfl, by simp, fun h => absurd h (by simp)⟩ (Nat.le_refl _) ⟨rfl, by simp, fun h => absurd h (by simp)⟩ (Nat.le_refl _) _ rfl rfl
     | false =>
      by_cases hz : schV G.sy dn = 0
      ·rw [hz] at HCK
       have HRR := mk0 (show getR3 t = (0, G.sy, dn) by unfold getR3; rw [if_neg (by have := HSZ.out; omega), HVF.out]; simp only; rw [if_neg (by rw [qL, hz]; simp)])
       clear hz
       go_wp2_with fail
       refine (HCK.out).mono ?_
       rintro E w6 ⟨rfl, hb⟩
       have HF3 := mk0 ((HF2.out).below hb)
       clear hb p0 p1 p3 f0 f1 f3 HF2 HCK
       obtain ⟨p0, p1, p3⟩ := (HF3.out).g.cells
       obtain ⟨f0, f1, f3⟩ := (HF3.out).g.frozen
       have HFI := mk0 ((HF3.out).fin (.slice A1 G.sy.length c1) (.slice A2 dn.length c2) (.int .i64 0))
       go_wp2
       obtain ⟨⟨k4, k5, k6, k7⟩, k1, k2, k3⟩ := HFI.out
       exact get3_done HRR.out k1 k2 k3 k4 k5 k6 k7 _ rfl rfl
      ·have hsv : schV G.sy dn = 7 := by
        cases q : schB G.sy dn with
        | true => exact absurd (schV_good q) hz
        | false => exact schV_bad q
       rw [hsv] at HCK
       have HRR := mk0 (show getR3 t = (7, [], []) by unfold getR3; rw [if_neg (by have := HSZ.out; omega), HVF.out]; simp only; rw [if_pos (.inr hz)])
       clear hz hsv
       go_wp2_with fail
       refine (HCK.out).mono ?_
       rintro E w6 ⟨rfl, hb⟩
       have HF3 := mk0 ((HF2.out).below hb)
       clear hb p0 p1 p3 f0 f1 f3 HF2 HCK
       obtain ⟨p0, p1, p3⟩ := (HF3.out).g.cells
       obtain ⟨f0, f1, f3⟩ := (HF3.out).g.frozen
       have HFI := mk0 ((HF3.out).fin (.slice none 0 0) (.slice none 0 0) (.int .i64 7))
       go_wp2
       obtain ⟨_, k1, k2, k3⟩ := HFI.out
       exact get3_done (A1 := none) (A2 := none) (c1 := 0) (c2 := 0) (sy := []) (fs := []) HRR.out k1 k2 k3 ⟨rfl, by simp, fun h => absurd h (by simp)⟩ (Nat.le_refl _) ⟨rfl, by simp, fun h => absurd h (by simp)⟩ (Nat.le_refl _) _ rfl rfl
theorem flatMap_len {α : Type} {f : α → List UInt8} {c : Nat} (l : List α) (h : ∀ x ∈ l, (f x).length ≤ c) : (l.flatMap f).length ≤ l.length * c := by
 induction l with
 | nil => simp
 | cons a r ih =>
  rw [List.flatMap_cons, l7_, l8_, Nat.succ_mul]
  have := h a (l19_ ..)
  have := ih (fun x hx => h x (l20_ _ hx))
  omega
theorem flatMap_drop {α : Type} {g : α → List UInt8} {l : List α} {i : Nat} (h : i < l.length) : (l.drop i).flatMap g = g l[i] ++ (l.drop (i + 1)).flatMap g := by
 rw [dropS h, List.flatMap_cons]
structure ScOk (sy : List S71) (fs : List S52) : Prop where
 ny : sy.length ≤ 24
 nf : fs.length ≤ 64
 sym : ∀ x ∈ sy, x.f0.size ≤ 24 ∧ 0 ≤ x.f1 ∧ x.f1 ≤ 4
 fnm : ∀ f ∈ fs, f.f0.size ≤ 24
 srt : ∀ f ∈ fs, srtB f.f1 = true ∧ f.f1.f0.length ≤ 60
 bod : ∀ f ∈ fs, tN f.f2 ≤ 400 ∧ tIn sy.length fs.length f.f1.f0.length f.f2
theorem scOk {sy : List S71} {fs : List S52} (h : schB sy fs = true) : ScOk sy fs := by
 obtain ⟨⟨h1, h2, h3⟩, h4, h5, h6, h7⟩ := schB_parts h
 refine ⟨(symsB_len h1).1, h3, fun x hx => ?_, fun f hf => ?_, fun f hf => ?_, fun f hf => ?_⟩
 ·have h8 := (symsB_len h1).2 x hx
  unfold symOk at h8
  simp only [l21_, l22_] at h8
  exact ⟨nameB_size h8.1.1, h8.1.2, h8.2⟩
 ·have h8 := h5 f hf
  unfold headOk at h8
  rw [l21_] at h8
  exact nameB_size h8.1
 ·have h8 := headOk_srt (h5 f hf)
  refine ⟨h8, ?_⟩
  have h9 := srtB_N h8
  obtain ⟨n, ⟨l⟩, b⟩ := f
  simp only at h9 ⊢
  rw [sN] at h9
  have := sLen_le (l := l)
  omega
 ·have h8 := h7 f hf
  unfold bodyOk endO at h8
  simp only [l21_, l22_] at h8
  refine ⟨h8.1.1, ?_⟩
  cases e : ofV sy (fs.map (·.f1)) f.f1.f0 f.f2 with
  | none => rw [e] at h8; exact absurd h8.2.1 (by simp)
  | some x => have := ofV_in e; rwa [List.length_map] at this
theorem symL_len {sy : List S71} {fs : List S52} (h : ScOk sy fs) {x : S71} (hx : x ∈ sy) : (symL x).length ≤ 40 := by
 have := h.sym x hx
 have h2 := dg_len (n := x.f1.toNat) (by omega)
 rw [Lib.size_eq] at this
 unfold symL
 simp only [l7_, l8_, List.length_nil]
 omega
theorem funL_len {sy : List S71} {fs : List S52} (h : ScOk sy fs) {f : S52} (hf : f ∈ fs) : (funL sy fs f).length ≤ 12500 := by
 have h1 := h.fnm f hf
 rw [Lib.size_eq] at h1
 have h2 := srtS_len f.f1
 have h3 := srtB_N (h.srt f hf).1
 have h4 := trmS_len (sy := sy) (fs := fs) (fun x hx => (h.sym x hx).1) h.fnm (np := f.f1.f0.length) (by have := (h.srt f hf).2; omega) _ f.f2 (Nat.le_refl _) (h.bod f hf).2
 have h5 := (h.bod f hf).1
 unfold funL
 simp only [l7_, l8_, List.length_nil]
 omega
theorem putL_len {sy : List S71} {fs : List S52} (h : ScOk sy fs) : (putL sy fs).length ≤ 1000000 := by
 have h1 := flatMap_len (f := symL) (c := 40) sy (fun x hx => symL_len h hx)
 have h2 := flatMap_len (f := funL sy fs) (c := 12500) fs (fun f hf => funL_len h hf)
 have := h.ny; have := h.nf
 unfold putL
 rw [l7_]
 omega
structure PX (w : World) (b : Nat) (s1 s2 : Value) (acc : List UInt8) (W : World) : Prop where
 hb : Below w.heap.size w W
 box : W.heap[w.heap.size]? = some (.cells #[s1, s2] 25 (0, 0))
 hlt : w.heap.size < b
 bb : BB b b acc W
 hbw : b < W.heap.size
theorem PX.write {w W W1 : World} {b : Nat} {s1 s2 : Value} {acc acc1 : List UInt8} (h : PX w b s1 s2 acc W) (hw : WrE b acc1 W W1) : PX w b s1 s2 acc1 W1 :=
 ⟨Below.trans h.hb (Below.mono hw.2.1 (Nat.le_of_lt h.hlt)), (hw.2.1.block _ h.hlt).trans h.box, h.hlt, hw.1, l12_ h.hbw hw.2.2.size⟩
theorem PX.below {w W W1 : World} {b : Nat} {s1 s2 : Value} {acc : List UInt8} (h : PX w b s1 s2 acc W) (hb : Below W.heap.size W W1) : PX w b s1 s2 acc W1 :=
 ⟨aL_ h.hb h.hb.size hb, aJ_ h.box hb, h.hlt, bb_below h.bb hb, l12_ h.hbw hb.size⟩
theorem px_start (w W : World) (s1 s2 : Value) (hb : Below w.heap.size w W) (box : W.heap[w.heap.size]? = some (.cells #[s1, s2] 25 (0, 0))) :
  PX w W.heap.size s1 s2 [] (W.alloc (.cells #[.pointer none, .slice none 0 0] 69)) :=
 ⟨hb.alloc hb.size _, aE_ box _, blk_lt box, bb_new W, by simp⟩
theorem PX.cells {w : World} {b : Nat} {s1 s2 : Value} {acc : List UInt8} {W : World} (h : PX w b s1 s2 acc W) : W.cell? ⟨w.heap.size, 0, none⟩ = some s1 ∧ W.cell? ⟨w.heap.size, 1, none⟩ = some s2 := ⟨(aC_ h.box 0).trans rfl, (aC_ h.box 1).trans rfl⟩
def PutE (v : List UInt8 × Int) (w : World) (e : Ending) (w' : World) : Prop := e = .returned (.tuple #[.string ⟨v.1.toArray⟩, .int .i64 v.2]) ∧ Below w.heap.size w w'
set_option maxHeartbeats 16000000 in
set_option maxRecDepth 100000 in
theorem put_calls (sy : List S71) (fs : List S52) (A1 A2 : Option Addr) (c1 c2 : Nat) (w : World) (hS : Kd.C k71 w A1 sy.length sy) (hF : Kd.C k52 w A2 fs.length fs) :
  Calls Tryz.prog 17 #[.agg #[.slice A1 sy.length c1, .slice A2 fs.length c2]] w (PutE (putV sy fs) w) := by
 have HS := mk0 hS
 have HF := mk0 hF
 have HP := mk0 (CB.mk (aA_ (Below.refl w.heap.size w) (.cells #[.slice A1 sy.length c1, .slice A2 fs.length c2] 25)) (aS_ w (.cells #[.slice A1 sy.length c1, .slice A2 fs.length c2] 25)))
 have HCK := mk0 (fun (W : World) (hW : Below w.heap.size w W) => scheme_calls sy fs A1 A2 c1 c2 W (Kd.C_below hS hW) (Kd.C_below hF hW))
 clear hS hF
 go_enter Tryz.func17, Tryz.ntmps17
 go_upto_region 1 with (fail)
 generalize w.alloc (.cells #[.slice A1 sy.length c1, .slice A2 fs.length c2] 25) = W1 at *
 obtain ⟨p0, p1⟩ := (HP.out).cells
 go_wp2_with fail
 refine (HCK.out W1 (HP.out).hb).mono ?_
 rintro E w2 ⟨rfl, hb⟩
 have HP2 := mk0 ((HP.out).below hb)
 clear hb p0 p1 HP HCK
 cases q : schB sy fs with
 | false =>
  have HV := mk0 (show putV sy fs = ([], 7) by unfold putV; rw [q]; rfl)
  rw [schV_bad q]
  clear q
  go_wp2
  go_ret2
  exact ⟨by rw [HV.out]; rfl, (HP2.out).hb⟩
 | true =>
 have HPV := mk0 (show putV sy fs = if 65536 < (putL sy fs).length then ([], 3) else (putL sy fs, 0) by unfold putV; rw [q]; rfl)
 have HOK := mk0 (scOk q)
 have HLN := mk0 (putL_len (scOk q))
 rw [schV_good q]
 clear q
 have HX := mk0 (px_start w w2 _ _ (HP2.out).hb (HP2.out).h0)
 go_upto_region 5 with (fail)
 generalize w2.alloc (.cells #[.pointer none, .slice none 0 0] 69) = w3 at *
 generalize w2.heap.size = b at *
 obtain ⟨p0, p1⟩ := (HX.out).cells
 go_wp2
 clear p0 p1 HP2
 go_loopg [20] sy.length (fun gg v20 wi => ∃ (j : Nat) (acc : List UInt8), j ≤ sy.length ∧ sy.length - j ≤ gg ∧ v20 = .int .i64 j ∧ Aside0 (PX w b (.slice A1 sy.length c1) (.slice A2 fs.length c2) acc wi) ∧ Aside0 (acc ++ ((sy.drop j).flatMap symL ++ fs.flatMap (funL sy fs)) = putL sy fs))
 case atStart => exact ⟨0, [], by omega, by omega, rfl, HX, ⟨rfl⟩⟩
 case round =>
  clear HX
  obtain ⟨j, acc, hj, hgg, rfl, HX, HA⟩ := hrel
  by_cases hlt : j < sy.length
  ·have hltz : (j : Int) < (sy.length : Int) := by omega
   obtain ⟨ad, e, hx0, hx1⟩ := at_T71 HS.out (j : Int) (by omega) hltz
   subst e
   rw [rdY_at hlt] at hx0 hx1
   rw [l14_] at hx0 hx1
   replace hx0 := ((HX.out).hb.cell (l1_ w _ hx0)).trans hx0
   replace hx1 := ((HX.out).hb.cell (l1_ w _ hx1)).trans hx1
   have HFD := mk0 (flatMap_drop (g := symL) hlt)
   have HSM := mk0 ((HOK.out).sym _ (l11_ hlt))
   generalize sy[j] = u at *
   go_upto_region 8 with (fail)
   have HX5 := mk0 (aS_ wr (.cells #[.string u.f0, .int .i64 u.f1] 71))
   have HP5 := mk0 ((HX.out).below (aA_ (Below.refl wr.heap.size wr) (.cells #[.string u.f0, .int .i64 u.f1] 71)))
   clear hx0 hx1 HX
   generalize (wr.alloc (.cells #[.string u.f0, .int .i64 u.f1] 71)) = w5 at *
   generalize wr.heap.size = b7 at *
   have m0 : w5.cell? ⟨b7, 0, none⟩ = some (.string u.f0) := (aC_ HX5.out 0).trans rfl
   have m1 : w5.cell? ⟨b7, 1, none⟩ = some (.int .i64 u.f1) := (aC_ HX5.out 1).trans rfl
   have HI := mk0 (fun W => itoa_calls u.f1 (HSM.out).2.1 (by have := (HSM.out).2.2; omega) W)
   have hsz : u.f0.size ≤ 24 := (HSM.out).1
   have hd : (dg u.f1.toNat).length ≤ 2 := dg_len (by have := (HSM.out).2.1; have := (HSM.out).2.2; omega)
   refine wp_region_still_tail 9 (by kernel_rfl) (by kernel_rfl) ?_
   simp only [List.take_succ_cons, List.take_zero, List.drop_succ_cons, List.drop_zero]
   repeat (refine wpStill_step (fun K hK => ?_); go_simp; (first | refine hK _ ?_ | (rw [if_neg (by omega)]; go_simp; refine hK _ ?_)); clear hK K)
   still_call (HI.out _)
   repeat (refine wpStill_step (fun K hK => ?_); go_simp; (first | refine hK _ ?_ | (rw [if_neg (by omega)]; go_simp; refine hK _ ?_)); clear hK K)
   refine wpStill_nil ?_
   change wpList _ _ _ _ _ w5.drew
   have HP6 := mk0 ((HP5.out).below (below_drew (Below.refl _ _)))
   clear m0 m1 HP5 HI
   generalize w5.drew = w6 at *
   have HA6 := mk0 (show (acc ++ symL u) ++ ((sy.drop (j + 1)).flatMap symL ++ fs.flatMap (funL sy fs)) = putL sy fs by rw [← HA.out, HFD.out]; simp)
   have HLA := mk0 (show acc.length + (symL u).length ≤ 1000000 by
    have h1 := HLN.out
    rw [← HA6.out, l7_, l7_] at h1
    omega)
   have HWS := mk0 (fun (s : ByteArray) (hs : s.data.toList = symL u) => ws_calls b acc s _ _ (HP6.out).bb hs (by have := HLA.out; omega) (Nat.le_of_lt (HP6.out).hbw))
   go_wp2_with fail
   refine ((HWS.out) _ ?_).mono ?_
   ·first | rfl | (unfold symL; simp; done) | (unfold symL; simp; rfl)
   rintro E w7 ⟨rfl, hw⟩
   have HP7 := mk0 ((HP6.out).write hw)
   clear hw HWS HLA hd hsz
   go_wp2
   go_roundg (sy.length - (j + 1))
   case measure => omega
   case rel => exact ⟨j + 1, acc ++ symL u, by omega, by omega, by first | rfl | (rw [wrap_succ (by omega) (by have := (HOK.out).ny; omega)]; rfl), HP7, HA6⟩
  ·have hltz : ¬ (j : Int) < (sy.length : Int) := by omega
   have hje : j = sy.length := by omega
   subst hje
   have HA2 := mk0 (show acc ++ fs.flatMap (funL sy fs) = putL sy fs by rw [← HA.out, List.drop_length]; rfl)
   obtain ⟨p0, p1⟩ := (HX.out).cells
   go_wp2
   clear p0 p1 HA
   go_loopg [38] fs.length (fun gg v38 wi => ∃ (j : Nat) (acc : List UInt8), j ≤ fs.length ∧ fs.length - j ≤ gg ∧ v38 = .int .i64 j ∧ Aside0 (PX w b (.slice A1 sy.length c1) (.slice A2 fs.length c2) acc wi) ∧ Aside0 (acc ++ (fs.drop j).flatMap (funL sy fs) = putL sy fs))
   case atStart => exact ⟨0, acc, by omega, by omega, rfl, HX, HA2⟩
   case round =>
    clear HX HA2
    obtain ⟨j, acc, hj, hgg, rfl, HX, HA⟩ := hrel
    by_cases hlt : j < fs.length
    ·have hltz : (j : Int) < (fs.length : Int) := by omega
     obtain ⟨ad, As, cs, At, ct, e, hx0, hx1, hx2, hx3, hx4, hls, hCs, hlt4, hCt⟩ := at_T52 HF.out (j : Int) (by omega) hltz
     subst e
     rw [rdF_at hlt] at hx0 hx1 hx2 hx3 hx4 hls hCs hlt4 hCt
     rw [l14_] at hx0 hx1 hx2 hx3 hx4
     replace hx0 := ((HX.out).hb.cell (l1_ w _ hx0)).trans hx0
     replace hx1 := ((HX.out).hb.cell (l1_ w _ hx1)).trans hx1
     replace hx2 := ((HX.out).hb.cell (l1_ w _ hx2)).trans hx2
     replace hx3 := ((HX.out).hb.cell (l1_ w _ hx3)).trans hx3
     replace hx4 := ((HX.out).hb.cell (l1_ w _ hx4)).trans hx4
     have HFD := mk0 (flatMap_drop (g := funL sy fs) hlt)
     have HFN := mk0 ((HOK.out).fnm _ (l11_ hlt))
     have HFS := mk0 ((HOK.out).srt _ (l11_ hlt))
     have HFB := mk0 ((HOK.out).bod _ (l11_ hlt))
     have HCs := mk0 hCs
     have HLs := mk0 hls
     have HCt := mk0 hCt
     have HLt := mk0 hlt4
     clear hCs hls hlt4 hCt
     generalize fs[j] = f at *
     go_upto_region 13 with (fail)
     have HX5 := mk0 (aS_ wr (.cells #[.string f.f0, .slice As f.f1.f0.length cs, .int .i64 f.f2.f0, .int .i64 f.f2.f1, .slice At f.f2.f2.length ct] 52))
     have HP5 := mk0 ((HX.out).below (aA_ (Below.refl _ _) (.cells #[.string f.f0, .slice As f.f1.f0.length cs, .int .i64 f.f2.f0, .int .i64 f.f2.f1, .slice At f.f2.f2.length ct] 52)))
     have HNB := mk0 (show wr.heap.size ≠ b from by have := (HX.out).hbw; omega)
     clear hx0 hx1 hx2 hx3 hx4 HX
     generalize (wr.alloc (.cells #[.string f.f0, .slice As f.f1.f0.length cs, .int .i64 f.f2.f0, .int .i64 f.f2.f1, .slice At f.f2.f2.length ct] 52)) = w5 at *
     generalize wr.heap.size = b7 at *
     have HKX := mk0 (fun (W3 : World) (h : W3.heap[b7]? = some (.cells #[.string f.f0, .slice As f.f1.f0.length cs, .int .i64 f.f2.f0, .int .i64 f.f2.f1, .slice At f.f2.f2.length ct] 52 (0, 0))) => (show W3.cell? ⟨b7, 0, none⟩ = some (.string f.f0) ∧ W3.cell? ⟨b7, 1, none⟩ = some (.slice As f.f1.f0.length cs) ∧ W3.cell? ⟨b7, 2, none⟩ = some (.int .i64 f.f2.f0) ∧ W3.cell? ⟨b7, 3, none⟩ = some (.int .i64 f.f2.f1) ∧ W3.cell? ⟨b7, 4, none⟩ = some (.slice At f.f2.f2.length ct) from
      ⟨(aC_ h 0).trans rfl, (aC_ h 1).trans rfl, (aC_ h 2).trans rfl, (aC_ h 3).trans rfl, (aC_ h 4).trans rfl⟩))
     obtain ⟨m0, m1, m2, m3, m4⟩ := HKX.out _ HX5.out
     have HSP := mk0 (sput_calls f.f1 As cs w5 (Kd.C_below HCs.out (HP5.out).hb) HLs.out)
     rw [show sputV f.f1 = (srtS f.f1, 0) by unfold sputV; rw [(HFS.out).1]; rfl] at HSP
     have hsl : (srtS f.f1).length ≤ 360 := by have := srtS_len f.f1; have := srtB_N (HFS.out).1; omega
     have hsz : f.f0.size ≤ 24 := HFN.out
     go_wp2_with fail
     refine (HSP.out).mono ?_
     rintro E w6 ⟨rfl, hb⟩
     have HP6 := mk0 ((HP5.out).below hb)
     have HX6 := mk0 (aJ_ HX5.out hb)
     clear hb m0 m1 m2 m3 m4 HP5 HX5 HSP
     obtain ⟨m0, m1, m2, m3, m4⟩ := HKX.out _ HX6.out
     have HA6 := mk0 (show (acc ++ funL sy fs f) ++ (fs.drop (j + 1)).flatMap (funL sy fs) = putL sy fs by rw [← HA.out, HFD.out]; simp)
     have HLA := mk0 (show acc.length + (funL sy fs f).length ≤ 1000000 by
      have h1 := HLN.out
      rw [← HA6.out, l7_, l7_] at h1
      omega)
     have HFL := mk0 (show (funL sy fs f).length = 11 + f.f0.data.toList.length + (srtS f.f1).length + (trmS (hdS sy fs) f.f2).length from by unfold funL; simp only [l7_, l8_, List.length_nil]; omega)
     have HWS := mk0 (fun (s : ByteArray) (hs : s.data.toList = [102, 117, 110, 32] ++ (f.f0.data.toList ++ ([32, 58, 32] ++ (srtS f.f1 ++ [32, 61, 32])))) => ws_calls b acc s _ w6 (HP6.out).bb hs (by have := HLA.out; have := HFL.out; simp only [l7_, l8_, List.length_nil]; omega) (Nat.le_of_lt (HP6.out).hbw))
     go_wp2_with fail
     refine ((HWS.out) _ ?_).mono ?_
     ·first | rfl | (simp; done) | (simp; rfl)
     rintro E w7 ⟨rfl, hw⟩
     have HP7 := mk0 ((HP6.out).write hw)
     have HX7 := mk0 (hw.2.2.keep _ _ _ HNB.out (by decide) HX6.out)
     clear hw m0 m1 m2 m3 m4 HP6 HX6 HWS hsl hsz
     obtain ⟨m0, m1, m2, m3, m4⟩ := HKX.out _ HX7.out
     obtain ⟨p0, p1⟩ := (HP7.out).cells
     have HTW := mk0 (twrite_calls sy fs A1 (some ad) c1 c2 f.f1.f0.length w HS.out HF.out (fun x hx => ((HOK.out).sym x hx).1) (HOK.out).fnm (by have := (HFS.out).2; omega) b (Nat.le_of_lt (HP7.out).hlt) 400 f.f2 (HFB.out).1 (by omega) (HFB.out).2 At ct (acc ++ ([102, 117, 110, 32] ++ (f.f0.data.toList ++ ([32, 58, 32] ++ (srtS f.f1 ++ [32, 61, 32]))))) w7 HCt.out HLt.out (HP7.out).hb (HP7.out).bb (HP7.out).hbw (by
      have := HLA.out; have := HFL.out; have := (HFB.out).1
      rw [l7_]
      simp only [l7_, l8_, List.length_nil]
      omega))
     go_wp2_with fail
     refine (HTW.out).mono ?_
     rintro E w8 ⟨rfl, hw⟩
     have HP8 := mk0 ((HP7.out).write hw)
     clear hw m0 m1 m2 m3 m4 p0 p1 HP7 HX7 HTW
     have HW10 := mk0 (wb10 b _ w8 (HP8.out).bb (by
      have := HLA.out; have := HFL.out
      simp only [l7_, l8_, List.length_nil]
      omega) (Nat.le_of_lt (HP8.out).hbw))
     go_wp2_with fail
     refine (HW10.out).mono ?_
     rintro E w9 ⟨rfl, hw⟩
     have HP9 := mk0 ((HP8.out).write hw)
     have HFE := mk0 (show acc ++ ([102, 117, 110, 32] ++ (f.f0.data.toList ++ ([32, 58, 32] ++ (srtS f.f1 ++ [32, 61, 32])))) ++ trmS (hdS sy fs) f.f2 ++ [10] = acc ++ funL sy fs f by unfold funL; simp)
     rw [HFE.out] at HP9
     clear hw HP8 HW10 HLA
     go_wp2
     go_roundg (fs.length - (j + 1))
     case measure => omega
     case rel => exact ⟨j + 1, acc ++ funL sy fs f, by omega, by omega, by first | rfl | (rw [wrap_succ (by omega) (by have := (HOK.out).nf; omega)]; rfl), HP9, HA6⟩
    ·have hltz : ¬ (j : Int) < (fs.length : Int) := by omega
     have hje : j = fs.length := by omega
     subst hje
     have HACC := mk0 (show acc = putL sy fs by rw [← HA.out, List.drop_length]; simp)
     have HLEN := mk0 (show Calls Tryz.prog 49 #[.pointer (some ⟨b, 0, none⟩)] wr fun e w' => e = .returned (.int .i64 (acc.length : Int)) ∧ w' = wr from by
      have h := Tryz.Builder_Len b b (Lib.byteCells acc) wr (HX.out).bb
      rw [byteCells_len] at h
      exact h)
     have HSTR := mk0 (Tryz.Builder_String_any b b acc wr (HX.out).bb (Nat.le_of_lt (HX.out).hbw))
     rw [← HACC.out] at HPV
     clear HA hj hgg hlt
     go_wp2_with fail
     refine (HLEN.out).mono ?_
     rintro E W0 ⟨rfl, rfl⟩
     cases q1 : decide ((acc.length : Int) > 65536) with
     | true =>
      have HP := mk0 (show putV sy fs = ([], 3) by rw [HPV.out, if_pos (by have := l0_ q1; omega)])
      go_wp2
      go_ret2
      exact ⟨by rw [HP.out]; rfl, (HX.out).hb⟩
     | false =>
      have HP := mk0 (show putV sy fs = (acc, 0) by rw [HPV.out, if_neg (by have := of_decide_eq_false q1; omega)])
      go_wp2_with fail
      refine (HSTR.out).mono ?_
      rintro E W9 ⟨rfl, hb⟩
      have HB9 := mk0 (Below.trans (HX.out).hb (Below.mono hb (Nat.le_of_lt (HX.out).hlt)))
      clear hb
      go_wp2
      go_ret2
      exact ⟨by rw [HP.out]; rfl, HB9.out⟩
def exL : List UInt8 := [115, 121, 109, 98, 111, 108, 32, 97, 32, 50, 10, 115, 121, 109, 98, 111, 108, 32, 98, 32, 49, 10, 115, 121, 109, 98, 111, 108, 32, 99, 32, 48, 10, 102, 117, 110, 32, 115, 32, 58, 32, 111, 32, 61, 32, 102, 32, 35, 99, 10, 102, 117, 110, 32, 102, 32, 58, 32, 111, 32, 62, 32, 111, 32, 61, 32, 35, 97, 32, 36, 48, 32, 40, 102, 32, 40, 35, 98, 32, 36, 48, 41, 41, 10]
def sy0 : List S71 := [⟨⟨#[97]⟩, 2⟩, ⟨⟨#[98]⟩, 1⟩, ⟨⟨#[99]⟩, 0⟩]
def fs0 : List S52 := [⟨⟨#[115]⟩, ⟨[]⟩, ⟨1, 1, [⟨2, 2, []⟩]⟩⟩, ⟨⟨#[102]⟩, ⟨[⟨[]⟩]⟩, ⟨2, 0, [⟨0, 0, []⟩, ⟨1, 1, [⟨2, 1, [⟨0, 0, []⟩]⟩]⟩]⟩⟩]
theorem ex_get : getR3 ⟨exL.toArray⟩ = (0, sy0, fs0) := by kernel_rfl
theorem ex_put : putV sy0 fs0 = (exL, 0) := by kernel_rfl
theorem ex_ord : ordV sy0 fs0 = (1, 0) := by kernel_rfl
theorem ex_sch : schV sy0 fs0 = 0 := by kernel_rfl
theorem get0_calls (w : World) (hm : MX w) : Calls Tryz.prog 19 #[.string ⟨exL.toArray⟩] w fun E w' => ∃ A1 c1 A2 c2, E = .returned (.tuple #[.agg #[.slice A1 sy0.length c1, .slice A2 fs0.length c2], .int .i64 0]) ∧ Kd.C k71 w' A1 sy0.length sy0 ∧ Kd.C k52 w' A2 fs0.length fs0 ∧ Below w.heap.size w w' := by
 refine (get3_calls ⟨exL.toArray⟩ w hm).mono ?_
 intro E w' h
 unfold GetE3 at h
 rw [ex_get] at h
 obtain ⟨A1, c1, A2, c2, rfl, h1, h2, h3, h4, h5⟩ := h
 exact ⟨A1, c1, A2, c2, rfl, h1, h3, h5⟩
theorem put0_calls (A1 : Option Addr) (c1 : Nat) (A2 : Option Addr) (c2 : Nat) (w : World) (hS : Kd.C k71 w A1 sy0.length sy0) (hF : Kd.C k52 w A2 fs0.length fs0) :
  Calls Tryz.prog 17 #[.agg #[.slice A1 sy0.length c1, .slice A2 fs0.length c2]] w fun E w' => E = .returned (.tuple #[.string ⟨exL.toArray⟩, .int .i64 0]) ∧ Below w.heap.size w w' := by
 refine (put_calls sy0 fs0 A1 A2 c1 c2 w hS hF).mono ?_
 intro E w' h
 unfold PutE at h
 rw [ex_put] at h
 exact h
theorem ord0_calls (A1 : Option Addr) (c1 : Nat) (A2 : Option Addr) (c2 : Nat) (w : World) (hS : Kd.C k71 w A1 sy0.length sy0) (hF : Kd.C k52 w A2 fs0.length fs0) :
  Calls Tryz.prog 24 #[.agg #[.slice A1 sy0.length c1, .slice A2 fs0.length c2]] w fun E w' => E = .returned (.tuple #[.int .i64 1, .int .i64 0]) ∧ Below w.heap.size w w' := by
 have h := sorderS_calls sy0 fs0 A1 A2 c1 c2 w hS hF
 rw [ex_ord] at h
 exact h
theorem sch0_calls (A1 : Option Addr) (c1 : Nat) (A2 : Option Addr) (c2 : Nat) (w : World) (hS : Kd.C k71 w A1 sy0.length sy0) (hF : Kd.C k52 w A2 fs0.length fs0) :
  Calls Tryz.prog 14 #[.agg #[.slice A1 sy0.length c1, .slice A2 fs0.length c2]] w fun E w' => E = .returned (.int .i64 0) ∧ Below w.heap.size w w' := by
 have h := scheme_calls sy0 fs0 A1 A2 c1 c2 w hS hF
 rw [ex_sch] at h
 exact h
theorem sy0_len : sy0.length = 3 := rfl
theorem fs0_len : fs0.length = 2 := rfl
theorem exL_list : (⟨exL.toArray⟩ : ByteArray).toList = exL := by rw [Lib.toList_data]
set_option maxHeartbeats 16000000 in
set_option maxRecDepth 100000 in
theorem alive_calls (w : World) (hm : MX w) : Calls Tryz.prog 16 #[] w fun E w' => E = .returned (.bool true) ∧ Below w.heap.size w w' := by
 have HG := mk0 (get0_calls w hm)
 have HEL := mk0 exL_list
 unfold exL at HG HEL
 rw [sy0_len, fs0_len] at HG
 clear hm
 go_enter Tryz.func16, Tryz.ntmps16
 go_wp2_with fail
 refine (HG.out).mono ?_
 rintro E w1 ⟨A1, c1, A2, c2, rfl, h1, h2, hb⟩
 have hba := aA_ (Below.refl w1.heap.size w1) (.cells #[.slice A1 3 c1, .slice A2 2 c2] 25)
 have HB2 := mk0 (aL_ hb hb.size hba)
 have HX2 := mk0 (aS_ w1 (.cells #[.slice A1 3 c1, .slice A2 2 c2] 25))
 have HS2 := mk0 (Kd.C_below h1 hba)
 have HF2 := mk0 (Kd.C_below h2 hba)
 clear h1 h2 hb hba HG
 go_upto_region 2 with (fail)
 generalize w1.alloc (.cells #[.slice A1 3 c1, .slice A2 2 c2] 25) = w2 at *
 generalize w1.heap.size = b1 at *
 have HK := mk0 (fun (W : World) (hW : Below w2.heap.size w2 W) => (show W.cell? ⟨b1, 0, none⟩ = some (.slice A1 3 c1) ∧ W.cell? ⟨b1, 1, none⟩ = some (.slice A2 2 c2) from ⟨(aC_ (aJ_ HX2.out hW) 0).trans rfl, (aC_ (aJ_ HX2.out hW) 1).trans rfl⟩))
 have HP := mk0 (put0_calls A1 c1 A2 c2 w2 HS2.out HF2.out)
 have HO := mk0 (fun (W : World) (hW : Below w2.heap.size w2 W) => ord0_calls A1 c1 A2 c2 W (Kd.C_below HS2.out hW) (Kd.C_below HF2.out hW))
 have HC := mk0 (fun (W : World) (hW : Below w2.heap.size w2 W) => sch0_calls A1 c1 A2 c2 W (Kd.C_below HS2.out hW) (Kd.C_below HF2.out hW))
 unfold exL at HP
 rw [sy0_len, fs0_len] at HP HO HC
 clear HS2 HF2 HX2
 obtain ⟨k0, k1⟩ := HK.out _ (Below.refl _ _)
 go_wp2_with fail
 refine (HP.out).mono ?_
 rintro E w3 ⟨rfl, hb⟩
 have HB3 := mk0 hb
 clear hb k0 k1 HP
 obtain ⟨k0, k1⟩ := HK.out _ HB3.out
 go_wp2_with fail
 refine (HO.out _ HB3.out).mono ?_
 rintro E w4 ⟨rfl, hb⟩
 have HB4 := mk0 (aL_ HB3.out (HB3.out).size hb)
 clear hb k0 k1 HB3 HO
 obtain ⟨k0, k1⟩ := HK.out _ HB4.out
 go_wp2_with fail
 refine (HC.out _ HB4.out).mono ?_
 rintro E w5 ⟨rfl, hb⟩
 have HB5 := mk0 (aL_ HB4.out (HB4.out).size hb)
 clear hb k0 k1
 go_wp2
 go_ret
 exact ⟨rfl, aL_ HB2.out (HB2.out).size HB5.out⟩
end Go.Proofs.YthflpbgloeimfaaGreatDoor.H
