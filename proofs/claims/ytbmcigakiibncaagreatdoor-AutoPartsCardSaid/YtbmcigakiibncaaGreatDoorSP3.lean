/- What autoParts_calls, handed_and_shaped, own, laidOut, laid7, mx_of_shaped, tabD_of_laid, arg_auto, arg_tree needs, out of my texts, by a program (slim.py). -/
import Derived.Test.YtbmcigakiibncaaGreatDoorSP2
namespace Go.Proofs.YtbmcigakiibncaaGreatDoor.H
open Go.RowKit Go.Proofs.YtbmcigakiibncaaGreatDoorW.PrintWords Go.Proofs.YtbmcigakiibncaaGreatDoorW.PrintLast Go.Proofs.YtbmcigakiibncaaGreatDoorW.PrintMore
set_option linter.unusedVariables false
set_option linter.unusedSimpArgs false
theorem strs_cell {W : World} {b : Nat} {L : List ByteArray} {x : Nat × Nat} (h : W.heap[b]? = some (.cells (L.map Value.string).toArray 9 x)) {i : Nat} (hi : i < L.length) : W.cell? ⟨b, i, none⟩ = some (.string (L.getD i ByteArray.empty)) := by
  rw [Lib.cell_of_heap h]
  simp [List.getD_eq_getElem?_getD, hi]
theorem getR_bad {t : ByteArray} (hs : t.size ≤ 65536) (h : getV t = none) : getR t = (4, [], 0, []) := by unfold getR; rw [if_neg (by omega), h]
theorem splitB_size (sep : ByteArray) : ∀ (k : Nat) (s : ByteArray), ∀ x ∈ Lib.splitB sep 0 k s, x.size ≤ s.size
  | 0, s, x, hx => by rw [Lib.splitB_zero, List.mem_singleton] at hx; rw [hx]; exact Nat.le_refl _
  | k + 1, s, x, hx => by
    unfold Lib.splitB at hx
    split at hx
    · rw [List.mem_singleton] at hx; rw [hx]; exact Nat.le_refl _
    · rcases List.mem_cons.1 hx with rfl | hx
      · rw [ByteArray.size_extract]; omega
      · have := splitB_size sep k _ x hx
        rw [ByteArray.size_extract] at this; omega
theorem chunk_size (s : ByteArray) (c : UInt8) (i : Nat) : ((chunks s c).getD i ByteArray.empty).size ≤ s.size := by
  by_cases hi : i < (chunks s c).length
  · rw [List.getD_eq_getElem?_getD, List.getElem?_eq_getElem hi]
    exact splitB_size _ _ _ _ (List.getElem_mem hi)
  · rw [List.getD_eq_getElem?_getD, List.getElem?_eq_none (by omega)]
    exact Nat.zero_le _
theorem getV_short {t : ByteArray} (h : (chunks t 10).length < 3) : getV t = none := by unfold getV; rw [if_neg (fun x => by omega)]
theorem getV_end {t : ByteArray} (h : (chunks t 10).getD ((chunks t 10).length - 1) ByteArray.empty ≠ ByteArray.empty) : getV t = none := by unfold getV; rw [if_neg (fun x => h x.2)]
theorem getV_first {t : ByteArray} (h : (chunks ((chunks t 10).getD 0 ByteArray.empty) 32).head? ≠ some sRanks) : getV t = none := by
  unfold getV
  by_cases hc : 3 ≤ (chunks t 10).length ∧ (chunks t 10).getD ((chunks t 10).length - 1) ByteArray.empty = ByteArray.empty
  · rw [if_pos hc, if_neg (fun x => h x.1)]
  · rw [if_neg hc]
theorem getD_memB {l : List ByteArray} {i : Nat} (hi : i < l.length) : l.getD i ByteArray.empty ∈ l := by
  rw [List.getD_eq_getElem?_getD, List.getElem?_eq_getElem hi]
  exact List.getElem_mem hi
theorem getV_rank {t : ByteArray} {i : Nat} (hi : i < ((chunks ((chunks t 10).getD 0 ByteArray.empty) 32).drop 1).length) (h : okW (((chunks ((chunks t 10).getD 0 ByteArray.empty) 32).drop 1).getD i ByteArray.empty) = false) : getV t = none := by
  unfold getV
  by_cases hc : 3 ≤ (chunks t 10).length ∧ (chunks t 10).getD ((chunks t 10).length - 1) ByteArray.empty = ByteArray.empty
  · rw [if_pos hc, if_neg (fun x => ?_)]
    have h1 := List.all_eq_true.1 x.2.1 (((chunks ((chunks t 10).getD 0 ByteArray.empty) 32).drop 1).getD i ByteArray.empty) (getD_memB hi)
    rw [h] at h1
    cases h1
  · rw [if_neg hc]
theorem getV_second {t : ByteArray} (h : (chunks ((chunks t 10).getD 1 ByteArray.empty) 32).head? ≠ some sStates) : getV t = none := by
  unfold getV
  by_cases hc : 3 ≤ (chunks t 10).length ∧ (chunks t 10).getD ((chunks t 10).length - 1) ByteArray.empty = ByteArray.empty
  · rw [if_pos hc, if_neg (fun x => h x.2.2.1)]
  · rw [if_neg hc]
theorem getV_sec {t : ByteArray} (h : secOk ((chunks ((chunks t 10).getD 1 ByteArray.empty) 32).drop 1) = false) : getV t = none := by
  unfold getV
  by_cases hc : 3 ≤ (chunks t 10).length ∧ (chunks t 10).getD ((chunks t 10).length - 1) ByteArray.empty = ByteArray.empty
  · rw [if_pos hc, if_neg (fun x => by rw [h] at x; exact absurd x.2.2.2 (by decide))]
  · rw [if_neg hc]
theorem num_nonneg {s : ByteArray} (h : okW s = true) : 0 ≤ valW s ∧ valW s ≤ 1000000000 := by
  unfold okW numOk at h
  simp only [Bool.and_eq_true, Bool.not_eq_true', decide_eq_true_eq] at h
  obtain ⟨n, hn⟩ := atoi_some h.1
  unfold valW
  rw [(num_good h.1).1]
  have := numV_eq hn
  omega
theorem getV_main {t s0 s1 x1 x2 x3 p : ByteArray} {L ws wd : List ByteArray} (hL : chunks t 10 = L) (h3 : 3 ≤ L.length) (hle : L.getD (L.length - 1) ByteArray.empty = ByteArray.empty) (hs0 : L.getD 0 ByteArray.empty = s0) (hws : chunks s0 32 = ws) (hhd : ws.head? = some sRanks) (hwd : ws.drop 1 = wd) (hall : wd.all okW = true)
    (hs1 : L.getD 1 ByteArray.empty = s1) (hws2 : chunks s1 32 = [p, x1, x2, x3]) (hh2 : [p, x1, x2, x3].head? = some sStates) (hx2 : x2 = sStart) (ok1 : okW x1 = true) (ok3 : okW x3 = true) :
    getV t = (gstep (valW x1) wd.length ((L.drop 2).take (L.length - 3)) (-1) (List.replicate (min (valW x1) 7).toNat (List.replicate wd.length []))).map fun M => (wd.map valW, valW x3, M) := by
  unfold getV
  subst hs0 hs1 hwd
  rw [hL, if_pos ⟨h3, hle⟩, hws, hws2, if_pos ⟨hhd, hall, hh2, by show (decide (x2 = sStart) && okW x1 && okW x3) = true; rw [decide_eq_true hx2, ok1, ok3]; rfl⟩]
  simp
theorem made_rep (z : Value) (n : Nat) : madeCells #[z] n = Array.replicate n z := by
  unfold madeCells
  apply Array.ext
  · simp
  · intro i h1 h2
    simp [Nat.mod_one]
theorem R_grown9 {α β : Type} {d : Kd α} {d2 : Kd β} {e e2 b0 b2 : Nat} {w w1 : World} {ok ok2 : Nat → Prop} {v v2 : Value} {xs : List α} {ys : List β} (h : d.R e w b0 ok v xs) (h2 : d2.R e2 w b2 ok2 v2 ys) (he : e ≠ e2) (hE : ∀ q ∈ d.E, q ≠ e2) (hg : w.grownBy w1 v2.ownBlock) : d.R e w1 b0 ok v xs := by
  cases hob : v2.ownBlock with
  | none => exact R_same h (fun k hk hlt => hg.block k hlt (by rw [hob]; exact fun x => by cases x))
  | some b =>
    obtain ⟨⟨cb, hcb⟩, _⟩ := ownBlock_typed h2 hob
    refine R_other h b (fun x => ?_) (fun q hq cells hc => types_ne hc hcb (hE q hq) rfl) (fun k hk hlt => hg.block k hlt (by rw [hob]; exact fun x => hk (Option.some.inj x)))
    obtain ⟨⟨c2, h3⟩, _⟩ := ownBlock_typed h x
    exact types_ne h3 hcb he rfl
structure GL (w W : World) (x y z : Value) (bl : Nat) (L : List ByteArray) : Prop where
  g : GH w W x y z
  l : W.heap[bl]? = some (.cells (L.map Value.string).toArray 9 (0, 0))
  hbl : w.heap.size + 2 ≤ bl
theorem GL.below {w W W1 : World} {x y z : Value} {bl : Nat} {L : List ByteArray} (h : GL w W x y z bl L) (hb : Below W.heap.size W W1) : GL w W1 x y z bl L := ⟨h.g.below hb, blk_below h.l hb, h.hbl⟩
theorem GL.app {w W W1 : World} {x y z : Value} {bl : Nat} {L : List ByteArray} (h : GL w W x y z bl L) {α : Type} {d : Kd α} {e b0 : Nat} {v : Value} {xs : List α} (hR : d.R e W b0 (fun k => w.heap.size + 2 ≤ k) v xs) (he : e ≠ 9) (hb : Below w.heap.size w W1) (hg : W.grownBy W1 v.ownBlock) : GL w W1 x y z bl L :=
  ⟨h.g.grown hb hg (fun k hk => hR.1 k hk), blk_grown h.l hg (fun hk => by obtain ⟨⟨c, hc⟩, _⟩ := ownBlock_typed hR hk.symm; exact types_ne hc h.l he rfl), h.hbl⟩
theorem GL.set0 {w W : World} {x y z : Value} {bl : Nat} {L : List ByteArray} (h : GL w W x y z bl L) (u : Value) : GL w (W.setCell ⟨w.heap.size, 0, none⟩ u) u y z bl L := ⟨h.g.set0 u, blk_far h.l (by have := h.hbl; show bl ≠ w.heap.size; omega) _, h.hbl⟩
theorem GL.set1 {w W : World} {x y z : Value} {bl : Nat} {L : List ByteArray} (h : GL w W x y z bl L) (u : Value) : GL w (W.setCell ⟨w.heap.size, 1, none⟩ u) x u z bl L := ⟨h.g.set1 u, blk_far h.l (by have := h.hbl; show bl ≠ w.heap.size; omega) _, h.hbl⟩
theorem GL.set2 {w W : World} {x y z : Value} {bl : Nat} {L : List ByteArray} (h : GL w W x y z bl L) (u : Value) : GL w (W.setCell ⟨w.heap.size, 2, none⟩ u) x y u bl L := ⟨h.g.set2 u, blk_far h.l (by have := h.hbl; show bl ≠ w.heap.size; omega) _, h.hbl⟩
theorem words_cell {W : World} {b : Nat} {ws : List ByteArray} {o i : Nat} (h : W.heap[b]? = some (.cells (ws.map Value.string).toArray 9 (0, 0))) (hi : i < (ws.drop 1).length) (ho : (ws.drop 1).length = 0 ∨ o = 1) : W.cell? ⟨b, o + i, none⟩ = some (.string ((ws.drop 1).getD i ByteArray.empty)) := by
  obtain rfl : o = 1 := by omega
  rw [strs_cell h (show 1 + i < ws.length by rw [List.length_drop] at hi; omega)]
  simp [List.getD_eq_getElem?_getD, List.getElem?_drop, Nat.add_comm]
theorem MM.at {b0 B : Nat} {W : World} {v : Value} {M : Mv} {m : Nat} {gs : List Nat} {u : Nat → Nat → Value} (h : MM b0 B W v M m gs u) {q f : Nat} (hq : q < M.length) (hf : f < m) :
    ∃ ab cap, v = .slice (some ⟨ab, 0, none⟩) M.length cap ∧ W.cell? ⟨ab, q, none⟩ = some (.slice (some ⟨gs.getD q 0, 0, none⟩) m m) ∧ W.cell? ⟨gs.getD q 0, f, none⟩ = some (u q f) ∧ W.frozen? ⟨gs.getD q 0, f, none⟩ = false ∧ (∃ cs, W.heap[ab]? = some (.cells cs 65 (0, 0))) ∧ (∃ cs, W.heap[gs.getD q 0]? = some (.cells cs 66 (0, 0))) ∧ B ≤ gs.getD q 0 := by
  have hrow := h.rows q hq
  have hR := h.row
  obtain ⟨_, inner, ho, _⟩ := h.row
  have hl := h.len
  rcases ho.2 with ⟨rfl, h0⟩ | ⟨g, cap, cur, rfl, hb, hh, hn, _, _, _⟩
  · omega
  · refine ⟨g, cap, by rw [hl], ?_, (blk_cell hrow.2.1 f).trans (by simp [hf]), blk_frozen hrow.2.1 f, ⟨cur, hh⟩, ⟨_, hrow.2.1⟩, hrow.1⟩
    have hr := Kd.R_reads' hR
    obtain ⟨_, _, h3⟩ := hr.2.2
    obtain ⟨ad, e, hcell⟩ := h3 (by omega)
    injection e with e
    subst e
    obtain ⟨cs, hcs, hK, hx⟩ := hcell q (gs.getD q 0) (by have : q < gs.length := by omega
                                                          simp [List.getD_eq_getElem?_getD, this])
    obtain rfl : cs = [.slice (some ⟨gs.getD q 0, 0, none⟩) m m] := hK
    have := hx 0 _ rfl
    rw [show (Addr.add ⟨g, 0, none⟩ (q * (kRow m).sz + 0)) = ⟨g, q, none⟩ by rw [show (kRow m).sz = 1 from rfl]; simp [Addr.add]; exact fun e => e.symm] at this
    exact this
theorem GL.far {w W : World} {x y z : Value} {bl : Nat} {L : List ByteArray} (h : GL w W x y z bl L) {a j : Nat} (ha : w.heap.size + 2 ≤ a) (hne : bl ≠ a) (u : Value) : GL w (W.setCell ⟨a, j, none⟩ u) x y z bl L :=
  ⟨⟨h.g.hb.setCell (p := ⟨a, j, none⟩) (by show w.heap.size ≤ a; omega) _, blk_far h.g.ha (by show w.heap.size ≠ a; omega) _, blk_far h.g.he (by show w.heap.size + 1 ≠ a; omega) _⟩, blk_far h.l hne _, h.hbl⟩
end Go.Proofs.YtbmcigakiibncaaGreatDoor.H
namespace Go.Proofs.YtbmcigakiibncaaGreatDoor.H
open Go.RowKit Go.Proofs.YtbmcigakiibncaaGreatDoorW.PrintWords Go.Proofs.YtbmcigakiibncaaGreatDoorW.PrintLast Go.Proofs.YtbmcigakiibncaaGreatDoorW.PrintMore
set_option linter.unusedVariables false
set_option linter.unusedSimpArgs false
def tabT21 : Bool × List (List Nat × List Nat) := (true, [([], []), ([0], [0]), ([1], [1]), ([], []), ([3], [3]), ([2, 4], [2, 4]), ([], []), ([6, 5, 2, 0, 1, 2, 3, 4, 5, 6], [5, 6])])
theorem tab21 : rtab .any (opsOf Tryz.f21 4) = tabT21 := by kernel_rfl
theorem bits21 : waitsOk tabT21.2 [0, 1, 3, 0, 8, 31, 0, 127] = true := by kernel_rfl
theorem clone_calls (A : Option Addr) (c : Nat) (rk : List Int) (w : World) (hr : Kd.C (Kd.int .i64) w A rk.length rk) (hn : rk.length ≤ 24) :
    Calls Tryz.prog 49 #[.slice A rk.length c] w fun e w' => ∃ v', e = .returned v' ∧ Kd.R (Kd.int .i64) 3 w' w.heap.size (fun k => w.heap.size ≤ k) v' rk ∧ Below w.heap.size w w' := by
  have key : ∀ (v : Value) (w' : World), w'.ownsRow w.heap.size 3 1 v rk.length (rk.map (Value.int .i64)) → Kd.R (Kd.int .i64) 3 w' w.heap.size (fun k => w.heap.size ≤ k) v rk := fun v w' h =>
    Kd.R_of_own h (fun k hk => (h.lt k hk).1)
  cases A with
  | none =>
    refine (Tryz.slices_Clone_int_nil rk.length c w).mono ?_
    rintro e w' ⟨rfl, rfl⟩
    have h0 : rk = [] := by
      cases rk with
      | nil => rfl
      | cons a r => obtain ⟨ad, e, _⟩ := Kd.at_int hr 0 (by omega) (by simp); cases e
    subst h0
    exact ⟨_, rfl, Kd.R_nil _ _ _ _ _, Below.refl _ _⟩
  | some ad =>
    by_cases h0 : rk.length = 0
    · obtain rfl : rk = [] := List.length_eq_zero_iff.1 h0
      refine (Any.slices_Clone_int_zero Tryz.laysNm215 ad c w).mono ?_
      rintro e w' ⟨v', rfl, ho, _, hb⟩
      exact ⟨v', rfl, key v' w' ho, hb⟩
    · have hcell : ∀ j, j < rk.length → w.cell? (ad.add j) = some (.int .i64 (rk.getD j 0)) := by
        intro j hj
        obtain ⟨ad2, e, hk⟩ := Kd.at_int hr (j : Int) (by omega) (by omega)
        injection e with e
        subst e
        rw [Int.toNat_natCast] at hk
        rw [hk]
        simp [rd]
      have hsp : ad.spot = none := by
        have h1 := hcell 0 (by omega)
        rw [show ad.add 0 = ad by unfold Addr.add; simp] at h1
        unfold World.cell? at h1
        split at h1
        · split at h1
          · cases h1
          · rename_i hn; simpa using hn
        · cases h1
      obtain ⟨b, off, sp⟩ := ad
      obtain rfl : sp = none := hsp
      refine (Tryz.slices_Clone_int b off rk.length c rk w (Nat.le_refl _) (by omega) (fun j hj => by
        have := hcell j hj
        rwa [show (Addr.add ⟨b, off, none⟩ j) = ⟨b, off + j, none⟩ by unfold Addr.add; split <;> simp_all] at this)).mono ?_
      rintro e w' ⟨v', rfl, ho, _, hb⟩
      rw [List.take_length] at ho
      exact ⟨v', rfl, key v' w' ho, hb⟩
structure DW (w W : World) (a0 a1 a2 r0 r1 r2 : Value) : Prop where
  hb : Below w.heap.size w W
  h1 : W.heap[w.heap.size]? = some (.cells #[a0, a1, a2] 25 (0, 0))
  h2 : W.heap[w.heap.size + 1]? = some (.cells #[r0, r1, r2] 25 (0, 0))
theorem DW.start (w : World) (a0 a1 a2 : Value) : DW w ((w.alloc (.cells #[a0, a1, a2] 25)).alloc (.cells #[.slice none 0 0, .int .i64 0, .slice none 0 0] 25)) a0 a1 a2 (.slice none 0 0) (.int .i64 0) (.slice none 0 0) :=
  ⟨below_alloc (below_alloc (Below.refl _ _) _) _, blk_alloc (blk_new w _) _, blk_at2 w _ _⟩
theorem DW.below {w W W1 : World} {a0 a1 a2 r0 r1 r2 : Value} (h : DW w W a0 a1 a2 r0 r1 r2) (hb : Below W.heap.size W W1) : DW w W1 a0 a1 a2 r0 r1 r2 := ⟨below_then h.hb h.hb.size hb, blk_below h.h1 hb, blk_below h.h2 hb⟩
theorem DW.cells {w W : World} {a0 a1 a2 r0 r1 r2 : Value} (h : DW w W a0 a1 a2 r0 r1 r2) : W.cell? ⟨w.heap.size, 0, none⟩ = some a0 ∧ W.cell? ⟨w.heap.size, 1, none⟩ = some a1 ∧ W.cell? ⟨w.heap.size, 2, none⟩ = some a2 :=
  ⟨(blk_cell h.h1 0).trans rfl, (blk_cell h.h1 1).trans rfl, (blk_cell h.h1 2).trans rfl⟩
theorem DW.rcells {w W : World} {a0 a1 a2 r0 r1 r2 : Value} (h : DW w W a0 a1 a2 r0 r1 r2) : (W.cell? ⟨w.heap.size + 1, 0, none⟩ = some r0 ∧ W.cell? ⟨w.heap.size + 1, 1, none⟩ = some r1 ∧ W.cell? ⟨w.heap.size + 1, 2, none⟩ = some r2) ∧ W.frozen? ⟨w.heap.size + 1, 0, none⟩ = false ∧ W.frozen? ⟨w.heap.size + 1, 1, none⟩ = false ∧ W.frozen? ⟨w.heap.size + 1, 2, none⟩ = false :=
  ⟨⟨(blk_cell h.h2 0).trans rfl, (blk_cell h.h2 1).trans rfl, (blk_cell h.h2 2).trans rfl⟩, blk_frozen h.h2 0, blk_frozen h.h2 1, blk_frozen h.h2 2⟩
theorem DW.far {w W : World} {a0 a1 a2 r0 r1 r2 : Value} (h : DW w W a0 a1 a2 r0 r1 r2) {a j : Nat} (ha : w.heap.size + 2 ≤ a) (u : Value) : DW w (W.setCell ⟨a, j, none⟩ u) a0 a1 a2 r0 r1 r2 :=
  ⟨h.hb.setCell (p := ⟨a, j, none⟩) (by show w.heap.size ≤ a; omega) _, blk_far h.h1 (by show w.heap.size ≠ a; omega) _, blk_far h.h2 (by show w.heap.size + 1 ≠ a; omega) _⟩
theorem DW.grown {w W W1 : World} {a0 a1 a2 r0 r1 r2 : Value} (h : DW w W a0 a1 a2 r0 r1 r2) {row : Option Nat} (hb : Below w.heap.size w W1) (hg : W.grownBy W1 row) (hne : ∀ k, row = some k → w.heap.size + 2 ≤ k) : DW w W1 a0 a1 a2 r0 r1 r2 :=
  ⟨hb, blk_grown h.h1 hg (fun e => by have := hne _ e.symm; omega), blk_grown h.h2 hg (fun e => by have := hne _ e.symm; omega)⟩
def put3 (W : World) (g : Nat) (x y z : Value) : World := ((W.setCell ⟨g, 0, none⟩ x).setCell ⟨g, 1, none⟩ y).setCell ⟨g, 2, none⟩ z
theorem DW.put {w W : World} {a0 a1 a2 r0 r1 r2 : Value} (h : DW w W a0 a1 a2 r0 r1 r2) (x y z : Value) : DW w (put3 W (w.heap.size + 1) x y z) a0 a1 a2 x y z :=
  ⟨((h.hb.setCell (p := ⟨w.heap.size + 1, 0, none⟩) (Nat.le_succ _) _).setCell (p := ⟨w.heap.size + 1, 1, none⟩) (Nat.le_succ _) _).setCell (p := ⟨w.heap.size + 1, 2, none⟩) (Nat.le_succ _) _,
    blk_far (blk_far (blk_far h.h1 (by show w.heap.size ≠ w.heap.size + 1; omega) _) (by show w.heap.size ≠ w.heap.size + 1; omega) _) (by show w.heap.size ≠ w.heap.size + 1; omega) _,
    blk_set (blk_set (blk_set h.h2 0 x) 1 y) 2 z⟩
theorem put3_heap (W : World) (g : Nat) (x y z : Value) (k : Nat) (h : k ≠ g) : (put3 W g x y z).heap[k]? = W.heap[k]? := by
  unfold put3
  rw [Below.heap_setCell _ _ _ _ h, Below.heap_setCell _ _ _ _ h, Below.heap_setCell _ _ _ _ h]
def DualJ (w : World) (A1 : Option Addr) (c1 : Nat) (A2 : Option Addr) (c2 : Nat) (rk : List Int) (st : Int) (n : Nat) (s : Option Addr × Nat × Nat) (W : World) : Prop :=
  DW w W (.slice A1 rk.length c1) (.int .i64 st) (.slice A2 n c2) (.slice none 0 0) (.int .i64 0) (.slice none 0 0) ∧ Kd.R (Kd.int .i64) 3 W w.heap.size (fun k => w.heap.size + 2 ≤ k) (.slice s.1 rk.length s.2.1) rk ∧
    W.heap[s.2.2]? = some (.cells #[.slice none 0 0, .int .i64 0, .slice none 0 0] 25 (0, 0)) ∧ w.heap.size + 1 < s.2.2 ∧ (Value.slice s.1 rk.length s.2.1).ownBlock ≠ some s.2.2
def rowD (row : List (List (List Nd))) : List (List (List Nd)) := row.map dualD
def mvOkD (M : Mv) : Bool := M.all fun row => row.all dualOk
def dualR (rk : List Int) (st : Int) (M : Mv) : Int × List Int × Int × Mv := if auB rk st M then (if mvOkD M then (0, rk, st, M.map rowD) else (3, [], 0, [])) else (10, [], 0, [])
def DualRE (d : Int × List Int × Int × Mv) (w : World) (E : Ending) (w' : World) : Prop :=
  ∃ v1 v2, E = .returned (.tuple #[.agg #[v1, .int .i64 d.2.2.1, v2], .int .i64 d.1]) ∧ Kd.R (Kd.int .i64) 3 w' w.heap.size (fun k => w.heap.size ≤ k) v1 d.2.1 ∧ kA3.R 65 w' w.heap.size (fun k => w.heap.size ≤ k) v2 d.2.2.2 ∧ Below w.heap.size w w'
theorem results_row_tmp {P : Program} {fn : Func} {p u : Tmp} {ty : TypeId} (h : fn.results = #[.cell p ty, .tmp u]) (tmps : Array Value) (w : World) (g : Nat) (t : TypeId) (cs : Array Value) (fr : Nat × Nat) (d : TypeDesc)
    (hp : tmps.getD p undef = .pointer (some ⟨g, 0, none⟩)) (hg : w.heap[g]? = some (.cells cs t fr))
    (hu : P.underlying ty = some d) (hd : (match d with | .struct _ | .array _ _ => true | _ => false) = true) (hi : (P.info? ty).map (·.size) = some cs.size) :
    (results fn tmps).run P w = .ok (.tuple #[.agg cs, tmps.getD u undef]) w := by
  rw [results_cell_tmp h, hp]
  simp only [asAddr, Sem.run_pure, Result.andThen_ok, run_loadVar_row w g t ty cs fr d hg hu hd hi]
theorem inN_of {rk : List Int} {st : Int} {M : Mv} (h : AuOk rk st M) {row : List (List (List Nd))} (hr : row ∈ M) {a : List (List Nd)} (ha : a ∈ row) : a.length ≤ 12 ∧ ∀ l ∈ a, l.length ≤ 24 ∧ ∀ x ∈ l, InN x :=
  ⟨h.alts row hr a ha, fun l hl => ⟨h.lens row hr a ha l hl, fun x hx => h.nds row hr a ha l hl x hx⟩⟩
structure DO (w : World) (b5 : Nat) (a0 a1 a2 : Value) (rk : List Int) (st : Int) (vr vm : Value) (S : Nat → Prop) (Ms : Mv) (W : World) : Prop where
  dw : DW w W a0 a1 a2 (.slice none 0 0) (.int .i64 0) (.slice none 0 0)
  bx : W.heap[b5]? = some (.cells #[vr, .int .i64 st, vm] 25 (0, 0))
  hbl : w.heap.size + 1 < b5
  rr : Kd.R (Kd.int .i64) 3 W w.heap.size (fun k => w.heap.size + 2 ≤ k) vr rk
  hne : vr.ownBlock ≠ some b5
  hS : ∀ k, S k → b5 < k
  rm : kA3.R 65 W w.heap.size S vm Ms
theorem DO.move {w : World} {b5 : Nat} {a0 a1 a2 : Value} {rk : List Int} {st : Int} {vr vm : Value} {S : Nat → Prop} {Ms : Mv} {W W1 : World} (h : DO w b5 a0 a1 a2 rk st vr vm S Ms W) (hb : Below W.heap.size W W1) : DO w b5 a0 a1 a2 rk st vr vm S Ms W1 :=
  ⟨h.dw.below hb, blk_below h.bx hb, h.hbl, Kd.R_below h.rr hb, h.hne, h.hS, Kd.R_below h.rm hb⟩
theorem DO.bound {w : World} {b5 : Nat} {a0 a1 a2 : Value} {rk : List Int} {st : Int} {vr vm : Value} {S : Nat → Prop} {Ms : Mv} {W : World} (h : DO w b5 a0 a1 a2 rk st vr vm S Ms W) : DO w b5 a0 a1 a2 rk st vr vm (fun k => b5 < k ∧ k < W.heap.size) Ms W :=
  ⟨h.dw, h.bx, h.hbl, h.rr, h.hne, fun k hk => hk.1, Kd.R_mono (Kd.R_bound h.rm) (fun k hk => ⟨h.hS k hk.1, hk.2.2.1⟩)⟩
theorem DO.mono {w : World} {b5 : Nat} {a0 a1 a2 : Value} {rk : List Int} {st : Int} {vr vm : Value} {S : Nat → Prop} {Ms : Mv} {W : World} (h : DO w b5 a0 a1 a2 rk st vr vm S Ms W) : DO w b5 a0 a1 a2 rk st vr vm (fun k => b5 < k) Ms W :=
  ⟨h.dw, h.bx, h.hbl, h.rr, h.hne, fun k hk => hk, Kd.R_mono h.rm h.hS⟩
theorem DO.far {w : World} {b5 : Nat} {a0 a1 a2 : Value} {rk : List Int} {st : Int} {vr vm : Value} {S : Nat → Prop} {Ms : Mv} {W : World} (h : DO w b5 a0 a1 a2 rk st vr vm S Ms W) {g j : Nat} {cs : Array Value} (hg : W.heap[g]? = some (.cells cs 66 (0, 0))) (hb : b5 < g) (hS : ∀ k, S k → k ≠ g) (u : Value) :
    DO w b5 a0 a1 a2 rk st vr vm S Ms (W.setCell ⟨g, j, none⟩ u) :=
  ⟨h.dw.far (by have := h.hbl; omega) u, blk_far h.bx (by show b5 ≠ g; omega) u, h.hbl, R_other h.rr g (fun e => by obtain ⟨⟨c, hc⟩, _⟩ := ownBlock_typed h.rr e; exact types_ne hc hg (by decide) rfl) (fun _ h => by cases h) (fun k hk _ => Below.heap_setCell _ _ _ k hk), h.hne, h.hS,
    Kd.R_far h.rm (p := ⟨g, j, none⟩) (fun k hk he => hS k hk he) u⟩
theorem DO.put {w : World} {b5 : Nat} {a0 a1 a2 : Value} {rk : List Int} {st : Int} {vr vm v1 : Value} {Ms : Mv} {W W1 : World} (h : DO w b5 a0 a1 a2 rk st vr vm (fun k => b5 < k) Ms W) (row : List (List (List Nd)))
    (hr : kA3.R 65 W1 w.heap.size (fun k => b5 < k) v1 (Ms ++ [row])) (hb1 : Below w.heap.size w W1) (hg : W.grownBy W1 vm.ownBlock) : DO w b5 a0 a1 a2 rk st vr v1 (fun k => b5 < k) (Ms ++ [row]) (W1.setCell ⟨b5, 2, none⟩ v1) := by
  have hbx := blk_grown h.bx hg (fun e => by have := h.rm.1 _ e.symm; omega)
  have hrr := R_grown9 h.rr h.rm (by decide) (fun _ h => by cases h) hg
  exact ⟨(h.dw.grown hb1 hg (fun k hk => by have h1 := h.rm.1 k hk; have h2 : b5 < k := h1; have := h.hbl; omega)).far (by have := h.hbl; omega) v1, blk_set hbx 2 v1, h.hbl,
    R_other hrr b5 h.hne (fun _ h => by cases h) (fun k hk _ => Below.heap_setCell _ _ _ k hk), h.hne, fun k hk => hk, Kd.R_far hr (p := ⟨b5, 2, none⟩) (fun k hk he => by have h1 : b5 < k := hk; have h2 : k = b5 := he; omega) v1⟩
theorem R_rep (W : World) (base n : Nat) (hb : base ≤ W.heap.size) (hn : n ≤ maxLen) : kA2.R 66 (W.alloc (.cells (madeCells #[.slice none 0 0] n) 66)) base (fun k => W.heap.size ≤ k) (.slice (some ⟨W.heap.size, 0, none⟩) n n) (List.replicate n []) := by
  have hsz : kA2.sz = 1 := rfl
  rw [made_rep]
  refine ⟨fun k hk => ?_, List.replicate n (.slice none 0 0), ⟨by simp [hsz], .inr ⟨W.heap.size, n, _, by rw [List.length_replicate], hb, blk_new W _, by simp, hn, by simp [hsz], by simp [hsz]⟩⟩, by simp [hsz], fun j p hj => ?_⟩
  · have : W.heap.size = k := by simpa [Value.ownBlock] using hk
    omega
  · obtain ⟨hjl, hjp⟩ := List.getElem?_eq_some_iff.1 hj
    rw [List.length_replicate] at hjl
    refine ⟨.slice none 0 0, ?_, ?_⟩
    · rw [hsz, Nat.mul_one, List.drop_replicate]
      rw [show n - j = (n - j - 1) + 1 by omega]; rfl
    · rw [← hjp, List.getElem_replicate]
      exact Kd.R_nil _ _ _ _ _
theorem R_puts {α : Type} {d : Kd α} {e t base g n cap : Nat} {ok okp : Nat → Prop} {W : World} {xs : List (List α)} {v : Value} {x : List α} (h : (Kd.slice e d).R t W base ok (.slice (some ⟨g, 0, none⟩) n cap) xs) (i : Nat) (hi : i < n) (hv : d.R e W base okp v x) (hokp : ∀ k, okp k → ok k ∧ k ≠ g) :
    (Kd.slice e d).R t (W.setCell ⟨g, i, none⟩ v) base ok (.slice (some ⟨g, 0, none⟩) n cap) (xs.set i x) ∧ W.grownBy (W.setCell ⟨g, i, none⟩ v) (some g) := by
  obtain ⟨c, hcl, _, hcc, _⟩ := Kd.R_elem h [] (i : Int) (by omega) (by omega)
  have hs : (Kd.slice e d).sz = 1 := rfl
  have := Kd.R_seg h (i : Int) (by omega) (by omega) (c := c) (seg := [v]) (j := 0) hcl hcc (by rw [hs]; exact Nat.le_refl _) (x' := x) (okp := okp) (by
    rw [hs] at hcl
    rw [List.take_zero, List.nil_append, List.drop_eq_nil_of_le (by simp; omega), List.append_nil]
    exact ⟨v, rfl, hv⟩) hokp
  rw [hs, Int.toNat_natCast, Nat.mul_one, Nat.add_zero] at this
  exact this
theorem R_cell1 {α : Type} {d : Kd α} {e t base g n cap : Nat} {ok : Nat → Prop} {W : World} {xs : List (List α)} (h : (Kd.slice e d).R t W base ok (.slice (some ⟨g, 0, none⟩) n cap) xs) (i : Nat) (hi : i < n) : ∃ u, W.cell? ⟨g, i, none⟩ = some u ∧ W.frozen? ⟨g, i, none⟩ = false := by
  obtain ⟨c, hcl, hM, hcc, hf⟩ := Kd.R_elem h [] (i : Int) (by omega) (by omega)
  obtain ⟨u, rfl, hR⟩ := hM
  have hs : (Kd.slice e d).sz = 1 := rfl
  have h0 := hcc 0 u rfl
  have h1 := hf 0
  rw [hs, Int.toNat_natCast, Nat.mul_one, Nat.add_zero] at h0 h1
  exact ⟨u, h0, h1⟩
theorem set_row {α : Type} {n f : Nat} {r : List (List α)} (hr : r.length = f) (hf : f < n) (y : List α) : (r ++ List.replicate (n - f) []).set f y = (r ++ [y]) ++ List.replicate (n - (f + 1)) [] := by
  obtain ⟨m, hm⟩ : ∃ m, n - f = m + 1 := ⟨n - f - 1, by omega⟩
  rw [hm, List.set_append_right _ _ (by omega), List.replicate_succ, show f - r.length = 0 by omega, List.set_cons_zero, show n - (f + 1) = m by omega, List.append_assoc, List.singleton_append]
set_option maxHeartbeats 16000000 in
set_option maxRecDepth 100000 in
theorem adual_calls (rk : List Int) (M : Mv) (st : Int) (A1 : Option Addr) (c1 : Nat) (A2 : Option Addr) (c2 : Nat) (w : World)
    (hr : Kd.C (Kd.int .i64) w A1 rk.length rk) (hc1 : rk.length ≤ c1) (hM : Kd.C kA3 w A2 M.length M) (ht : TabD w) :
    Calls Tryz.prog 21 #[.agg #[.slice A1 rk.length c1, .int .i64 st, .slice A2 M.length c2]] w (DualRE (dualR rk st M) w) := by
  have HR := Aside0.mk hr
  have HM := Aside0.mk hM
  have HT := Aside0.mk ht
  have HD := Aside0.mk (DW.start w (.slice A1 rk.length c1) (.int .i64 st) (.slice A2 M.length c2))
  have HCK := Aside0.mk (acheckG_calls rk M st A1 c1 A2 c2 _ (Kd.C_below hr (HD.out).hb) hc1 (Kd.C_below hM (HD.out).hb))
  clear hr hc1 hM ht
  go_enter Tryz.func21, Tryz.ntmps21
  go_upto_region 1 with (fail)
  generalize ((w.alloc (.cells #[.slice A1 rk.length c1, .int .i64 st, .slice A2 M.length c2] 25)).alloc (.cells #[.slice none 0 0, .int .i64 0, .slice none 0 0] 25)) = W1 at *
  obtain ⟨k0, k1, k2⟩ := (HD.out).cells
  cases hau : auB rk st M with
  | false =>
    rw [chk_false hau] at HCK
    have HP := Aside0.mk (show dualR rk st M = (10, [], 0, []) by unfold dualR; rw [hau]; rfl)
    clear hau
    go_wp2_with fail
    refine (HCK.out).mono ?_
    rintro E W2 ⟨rfl, hb⟩
    have HD2 := Aside0.mk ((HD.out).below hb)
    clear hb k0 k1 k2
    obtain ⟨⟨k0, k1, k2⟩, f0, f1, f2⟩ := (HD2.out).rcells
    have HD3 := Aside0.mk ((HD2.out).put (.slice none 0 0) (.int .i64 0) (.slice none 0 0))
    unfold put3 at HD3
    go_wp2
    refine bodyPost_ret (results_row_tmp rfl _ _ (w.heap.size + 1) 25 #[.slice none 0 0, .int .i64 0, .slice none 0 0] (0, 0) _ rfl (HD3.out).h2 Tryz.underlying25 rfl (by kernel_rfl)) rfl ?_
    rw [HP.out]
    exact ⟨_, _, rfl, Kd.R_nil _ _ _ _ _, Kd.R_nil _ _ _ _ _, (HD3.out).hb⟩
  | true =>
  rw [chk_true hau] at HCK
  have HOK := Aside0.mk (auOk hau)
  have HPR := Aside0.mk (show dualR rk st M = if mvOkD M then (0, rk, st, M.map rowD) else (3, [], 0, []) by unfold dualR; rw [hau]; rfl)
  have HRL := Aside0.mk (show rk.length ≤ 24 from (HOK.out).nrk)
  clear hau
  go_wp2_with fail
  refine (HCK.out).mono ?_
  rintro E W2 ⟨rfl, hb⟩
  have HD2 := Aside0.mk ((HD.out).below hb)
  clear hb k0 k1 k2 HCK HD
  obtain ⟨k0, k1, k2⟩ := (HD2.out).cells
  have HD2d := Aside0.mk ((HD2.out).below (below_drew (Below.refl _ _)))
  have HHd := Aside0.mk (show w.heap.size + 2 ≤ W2.drew.heap.size from blk_lt (HD2d.out).h2)
  go_upto_region 4 with (fail)
  refine wp_region_noPanic ?_
  refine start_ (n := 8) (S := fun w' => w'.cell? ⟨w.heap.size, 0, none⟩ = some (.slice A1 rk.length c1) ∧ w'.cell? ⟨w.heap.size, 1, none⟩ = some (.int .i64 st)) (ds := [7]) #[false, false, false, false, false, false, false, false] (by kernel_rfl) rfl rfl ⟨pw_cell_below (below_drew (Below.refl _ _)) k0, pw_cell_below (below_drew (Below.refl _ _)) k1⟩ (fun hHeld => ?_)
  refine with_tabW tab21 bits21 (fun HT_ HW_ => ?_)
  clear k0 k1 k2
  generalize W2.drew = W3 at HD2d HHd hHeld ⊢
  refine take_ (i := 0) (N := some 19) (v := ?_) (a' := ?_) #[true, false, false, false, false, false, false, false] rfl rfl (take_ofW HT_.out HW_.out (by kernel_rfl)) (fun _ _ _ h => h) (Or.inl ⟨by rfl, ?_⟩) hHeld ?_ ?_
  rotate_left
  · rintro w' ⟨s0, s1⟩
    go_simp
    with_reducible rfl
  rotate_left
  · simp only [Act.put, List.setIfInBounds_toArray, List.set_cons_zero, List.set_cons_succ]
    rfl
  refine take_ (i := 1) (N := some 20) (v := ?_) (a' := ?_) #[true, true, false, false, false, false, false, false] rfl rfl (take_ofW HT_.out HW_.out (by kernel_rfl)) (fun _ _ _ h => h) (Or.inl ⟨by rfl, ?_⟩) hHeld ?_ ?_
  rotate_left
  · rintro w' ⟨s0, s1⟩
    go_simp
    with_reducible rfl
  rotate_left
  · simp only [Act.put, List.setIfInBounds_toArray, List.set_cons_zero, List.set_cons_succ]
    rfl
  refine take_ (i := 3) (N := some 22) (v := ?_) (a' := ?_) #[true, true, false, true, false, false, false, false] rfl rfl (take_ofW HT_.out HW_.out (by kernel_rfl)) (fun _ _ _ h => h) (Or.inl ⟨by rfl, ?_⟩) hHeld ?_ ?_
  rotate_left
  · rintro w' ⟨s0, s1⟩
    go_simp
    with_reducible rfl
  rotate_left
  · simp only [Act.put, List.setIfInBounds_toArray, List.set_cons_zero, List.set_cons_succ]
    rfl
  refine take_ (i := 4) (N := some 23) (v := ?_) (a' := ?_) #[true, true, false, true, true, false, false, false] rfl rfl (take_ofW HT_.out HW_.out (by kernel_rfl)) (fun _ _ _ h => h) (Or.inl ⟨by rfl, ?_⟩) hHeld ?_ ?_
  rotate_left
  · rintro w' ⟨s0, s1⟩
    go_simp
    with_reducible rfl
  rotate_left
  · simp only [Act.put, List.setIfInBounds_toArray, List.set_cons_zero, List.set_cons_succ]
    rfl
  refine join_ (σ := Option Addr × Nat × Nat) 1 #[true, true, true, true, true, true, true, false] (fun s => [(21, .slice s.1 rk.length s.2.1), (24, (.agg #[.slice s.1 rk.length s.2.1, .int .i64 st, .slice none 0 0])), (5, .pointer (some ⟨s.2.2, 0, none⟩))]) (DualJ w A1 c1 A2 c2 rk st M.length) ?cont (fun hcont => ?orders)
  case orders =>
    refine two_ (i := 2) (j := 6) (Ni := some 21) (Nj := some 5) #[true, true, true, true, true, false, false, false] #[true, true, false, true, true, false, true, false] rfl rfl rfl rfl (two_of HT_.out (by kernel_rfl)) (by decide) (by decide) (fun K hK => ?_) (fun K hK => ?_)
    · refine goes_ (f := 49) Tryz.func49 (by kernel_rfl) rfl #[.slice A1 rk.length c1] (by rfl) rfl rfl (by (try simp only [List.map_toArray, List.map_cons, List.map_nil]); rfl) ?_
      refine (clone_calls A1 c1 rk _ (Kd.C_below HR.out (HD2d.out).hb) HRL.out).mono ?_
      rintro E W4 ⟨v9, rfl, hR9, hb9⟩
      obtain ⟨A9, c9, e9⟩ := Kd.R_slice hR9
      subst e9
      have HD9 := Aside0.mk ((HD2d.out).below hb9)
      have HR9 := Aside0.mk (show Kd.R (Kd.int .i64) 3 _ w.heap.size (fun k => w.heap.size + 2 ≤ k) (.slice A9 rk.length c9) rk from Kd.R_lower (Kd.R_mono hR9 (fun k hk => Nat.le_trans (HHd.out) hk)) (by have := HHd.out; omega))
      refine ⟨_, rfl, ?_⟩
      refine hK.out _ _ ⟨(HD9.out).cells.1, (HD9.out).cells.2.1⟩ (fun hHeld => ?_)
      clear hK K
      refine norm_ (a' := ?_) ?_ ?_
      rotate_left
      · show Act.put _ (some 21) _ = _
        simp only [Act.put, List.setIfInBounds_toArray, List.set_cons_zero, List.set_cons_succ]
        rfl
      refine take_ (i := 5) (N := some 24) (v := ?_) (a' := ?_) #[true, true, true, true, true, true, false, false] rfl rfl (take_ofW HT_.out HW_.out (by kernel_rfl)) (fun _ _ _ h => h) (Or.inl ⟨by rfl, ?_⟩) hHeld ?_ ?_
      rotate_left
      · rintro w' ⟨s0, s1⟩
        go_simp
        with_reducible rfl
      rotate_left
      · simp only [Act.put, List.setIfInBounds_toArray, List.set_cons_zero, List.set_cons_succ]
        rfl
      refine one_ (i := 6) (N := some 5) #[true, true, true, true, true, true, true, false] rfl rfl (one_of HT_.out (by kernel_rfl)) (by decide) (fun K hK => ?_)
      refine box_step (by rfl) (N := 5) ?hd (cs := #[.slice none 0 0, .int .i64 0, .slice none 0 0]) (t := 25) ?hr ?_
      (case hd => rfl)
      (case hr => first | (go_simp; done) | (go_simp; rfl))
      intro b5 hg W5 hbox hb5
      have HBL := Aside0.mk (show w.heap.size + 1 < b5 by rw [hg]; exact blk_lt (HD9.out).h2)
      have HBX := Aside0.mk hbox
      have HD5 := Aside0.mk ((HD9.out).below hb5)
      have HR5 := Aside0.mk (Kd.R_below HR9.out hb5)
      have HNE := Aside0.mk (show (Value.slice A9 rk.length c9).ownBlock ≠ some b5 from fun e => by have := (ownBlock_typed HR9.out e).2; omega)
      refine hK.out _ _ ⟨(HD5.out).cells.1, (HD5.out).cells.2.1⟩ (fun hHeld => ?_)
      clear hK K
      refine norm_ (a' := ?_) ?_ ?_
      rotate_left
      · show Act.put _ (some 5) _ = _
        simp only [Act.put, List.setIfInBounds_toArray, List.set_cons_zero, List.set_cons_succ]
        rfl
      exact norm_ (by simp only [putAll, Act.put, List.setIfInBounds_toArray, List.set_cons_zero, List.set_cons_succ]) (hcont (A9, c9, b5) _ ⟨HD5.out, HR5.out, HBX.out, HBL.out, HNE.out⟩)
    · refine box_step (by rfl) (N := 5) ?hd (cs := #[.slice none 0 0, .int .i64 0, .slice none 0 0]) (t := 25) ?hr ?_
      (case hd => rfl)
      (case hr => first | (go_simp; done) | (go_simp; rfl))
      intro b5 hg W5 hbox hb5
      have HBL := Aside0.mk (show w.heap.size + 1 < b5 by rw [hg]; exact blk_lt (HD2d.out).h2)
      have HBX := Aside0.mk hbox
      have HD5 := Aside0.mk ((HD2d.out).below hb5)
      refine hK.out _ _ ⟨(HD5.out).cells.1, (HD5.out).cells.2.1⟩ (fun hHeld => ?_)
      clear hK K
      refine norm_ (a' := ?_) ?_ ?_
      rotate_left
      · show Act.put _ (some 5) _ = _
        simp only [Act.put, List.setIfInBounds_toArray, List.set_cons_zero, List.set_cons_succ]
        rfl
      have HHe := Aside0.mk (show w.heap.size + 2 ≤ W5.heap.size from by have := HHd.out; have := hb5.size; omega)
      refine one_ (i := 2) (N := some 21) #[true, true, true, true, true, false, true, false] rfl rfl (one_of HT_.out (by kernel_rfl)) (by decide) (fun K hK => ?_)
      refine goes_ (f := 49) Tryz.func49 (by kernel_rfl) rfl #[.slice A1 rk.length c1] (by rfl) rfl rfl (by (try simp only [List.map_toArray, List.map_cons, List.map_nil]); rfl) ?_
      refine (clone_calls A1 c1 rk _ (Kd.C_below HR.out (HD5.out).hb) HRL.out).mono ?_
      rintro E W6 ⟨v9, rfl, hR9, hb9⟩
      obtain ⟨A9, c9, e9⟩ := Kd.R_slice hR9
      subst e9
      have HD9 := Aside0.mk ((HD5.out).below hb9)
      have HR9 := Aside0.mk (show Kd.R (Kd.int .i64) 3 _ w.heap.size (fun k => w.heap.size + 2 ≤ k) (.slice A9 rk.length c9) rk from Kd.R_lower (Kd.R_mono hR9 (fun k hk => Nat.le_trans (HHe.out) hk)) (by have := HHe.out; omega))
      have HBX9 := Aside0.mk (blk_below HBX.out hb9)
      have HNE := Aside0.mk (show (Value.slice A9 rk.length c9).ownBlock ≠ some b5 from fun e => by have h1 := hR9.1 _ e; have h2 := blk_lt HBX.out; have h3 : W5.heap.size ≤ b5 := h1; omega)
      refine ⟨_, rfl, ?_⟩
      refine hK.out _ _ ⟨(HD9.out).cells.1, (HD9.out).cells.2.1⟩ (fun hHeld => ?_)
      clear hK K
      refine norm_ (a' := ?_) ?_ ?_
      rotate_left
      · show Act.put _ (some 21) _ = _
        simp only [Act.put, List.setIfInBounds_toArray, List.set_cons_zero, List.set_cons_succ]
        rfl
      refine take_ (i := 5) (N := some 24) (v := ?_) (a' := ?_) #[true, true, true, true, true, true, true, false] rfl rfl (take_ofW HT_.out HW_.out (by kernel_rfl)) (fun _ _ _ h => h) (Or.inl ⟨by rfl, ?_⟩) hHeld ?_ ?_
      rotate_left
      · rintro w' ⟨s0, s1⟩
        go_simp
        with_reducible rfl
      rotate_left
      · simp only [Act.put, List.setIfInBounds_toArray, List.set_cons_zero, List.set_cons_succ]
        rfl
      exact norm_ (by simp only [putAll, Act.put, List.setIfInBounds_toArray, List.set_cons_zero, List.set_cons_succ]) (hcont (A9, c9, b5) _ ⟨HD9.out, HR9.out, HBX9.out, HBL.out, HNE.out⟩)
  case cont =>
    rintro ⟨A9, c9, b5⟩ W6 ⟨hD, hR9, hbx, hbl, hne⟩
    dsimp only at hD hR9 hbx hbl hne
    refine norm_ (a' := ?_) ?_ ?_
    rotate_left
    · show putAll _ _ = _
      simp only [putAll, Act.put, List.setIfInBounds_toArray, List.set_cons_zero, List.set_cons_succ]
      rfl
    have kb0 : W6.cell? ⟨b5, 0, none⟩ = some (.slice none 0 0) := (blk_cell hbx 0).trans rfl
    have kb1 : W6.cell? ⟨b5, 1, none⟩ = some (.int .i64 0) := (blk_cell hbx 1).trans rfl
    have kb2 : W6.cell? ⟨b5, 2, none⟩ = some (.slice none 0 0) := (blk_cell hbx 2).trans rfl
    have fb0 := blk_frozen hbx 0
    have fb1 := blk_frozen hbx 1
    have fb2 := blk_frozen hbx 2
    have hother : ∀ (W : World) (j : Nat) (u : Value), Kd.R (Kd.int .i64) 3 W w.heap.size (fun k => w.heap.size + 2 ≤ k) (.slice A9 rk.length c9) rk → Kd.R (Kd.int .i64) 3 (W.setCell ⟨b5, j, none⟩ u) w.heap.size (fun k => w.heap.size + 2 ≤ k) (.slice A9 rk.length c9) rk := fun W j u h =>
      R_other h b5 hne (fun _ h => by cases h) (fun k hk _ => Below.heap_setCell _ _ _ k hk)
    have HDO := Aside0.mk (show DO w b5 (.slice A1 rk.length c1) (.int .i64 st) (.slice A2 M.length c2) rk st (.slice A9 rk.length c9) (.slice none 0 0) (fun k => b5 < k) [] (((W6.setCell ⟨b5, 0, none⟩ (.slice A9 rk.length c9)).setCell ⟨b5, 1, none⟩ (.int .i64 st)).setCell ⟨b5, 2, none⟩ (.slice none 0 0)) from
      ⟨((hD.far (by omega) _).far (by omega) _).far (by omega) _, blk_set (blk_set (blk_set hbx 0 _) 1 _) 2 _, hbl, hother _ 2 _ (hother _ 1 _ (hother _ 0 _ hR9)), hne, fun k hk => hk, Kd.R_nil _ _ _ _ _⟩)
    clear hD hR9 hbx hbl hne hother HD2d HHd HD2
    refine last_ (i := 7) (N := none) #[true, true, true, true, true, true, true, true] rfl rfl (one_of HT_.out (by kernel_rfl)) (by decide) (fun K hK => ?_)
    refine skip_ (w1 := ?_) (by rfl) rfl ?_ ?_
    rotate_left
    · go_simp
      rfl
    refine hK.out _ _ ?_
    clear hK K
    refine done_ (done_of HT_.out (by kernel_rfl)) ?_
    refine NoPanic.normal ?_
    clear kb0 kb1 kb2 fb0 fb1 fb2
    generalize ((W6.setCell ⟨b5, 0, none⟩ (.slice A9 rk.length c9)).setCell ⟨b5, 1, none⟩ (.int .i64 st)).setCell ⟨b5, 2, none⟩ (.slice none 0 0) = W7 at *
    obtain ⟨_, _, k2⟩ := (HDO.out).dw.cells
    have HNM := Aside0.mk (HOK.out).nM
    go_wp2
    clear k2
    go_loopg [28] M.length (fun gg v28 wi => ∃ (q : Nat) (vm : Value), q ≤ M.length ∧ M.length - q ≤ gg ∧ v28 = .int .i64 q ∧ Aside0 (DO w b5 (.slice A1 rk.length c1) (.int .i64 st) (.slice A2 M.length c2) rk st (.slice A9 rk.length c9) vm (fun k => b5 < k) ((M.take q).map rowD) wi) ∧ Aside0 (mvOkD (M.take q) = true))
    case atStart => exact ⟨0, _, Nat.zero_le _, Nat.le_refl _, rfl, HDO, ⟨rfl⟩⟩
    case round =>
      clear HDO
      obtain ⟨q, vm, hq, hgg, rfl, HO, HV⟩ := hrel
      by_cases hlt : q < M.length
      · have hltz : (q : Int) < (M.length : Int) := by omega
        have HLT := Aside0.mk hlt
        obtain ⟨ad, A0, c0, e, hk, hc0, hrow⟩ := at_sl HM.out q hlt
        subst e
        have hk2 := pw_cell_below (HO.out).dw.hb hk
        have HROW := Aside0.mk hrow
        have HRM := Aside0.mk (getD_memY [] hlt)
        have HKQ := Aside0.mk (show wrap64 ((q : Int) + 1) = ((q + 1 : Nat) : Int) by rw [wr_id (by omega) (by have := HNM.out; omega)]; rfl)
        have HTK := Aside0.mk (show (M.take (q + 1)).map rowD = (M.take q).map rowD ++ [rowD (M.getD q [])] by
          rw [List.take_add_one, List.map_append, List.getD_eq_getElem?_getD, List.getElem?_eq_getElem hlt]; rfl)
        have HTV := Aside0.mk (show mvOkD (M.take (q + 1)) = (mvOkD (M.take q) && (M.getD q []).all dualOk) by
          unfold mvOkD
          rw [List.take_add_one, List.all_append, List.getD_eq_getElem?_getD, List.getElem?_eq_getElem hlt]; simp)
        clear hk hc0 hrow hlt hq
        generalize M.getD q [] = row at *
        have HRL2 := Aside0.mk (show row.length ≤ 24 from by rw [(HOK.out).row row HRM.out]; exact HRL.out)
        have HB0 := Aside0.mk ((HO.out).bound)
        generalize wr = WR at *
        have HOA := Aside0.mk ((HB0.out).move (below_alloc (Below.refl _ _) (.cells (madeCells #[.slice none 0 0] row.length) 66)))
        have HRW := Aside0.mk (R_rep WR w.heap.size row.length ((HO.out).dw.hb.size) (by unfold maxLen; have := HRL2.out; omega))
        have HGB := Aside0.mk (blk_lt (HO.out).bx)
        have hmk : ∀ W : World, (Instr.makeSlice 65 (.int .i64 (row.length : Int)) (.int .i64 (row.length : Int))).run Tryz.prog W = .ok (.slice (some ⟨W.heap.size, 0, none⟩) row.length row.length) (W.alloc (.cells (madeCells #[.slice none 0 0] row.length) 66)) := fun W => run_make_row' 65 66 (.slice none 0 0) 24 Tryz.underlying65 Q.info66 rfl .i64 .i64 row.length (by have := HRL2.out; omega) (by have := HRL2.out; omega) W
        clear HO HB0
        go_upto_region 9 with (fail)
        clear hmk hk2 hltz
        have HGL := Aside0.mk (blk_new WR (.cells (madeCells #[.slice none 0 0] row.length) 66))
        generalize WR.alloc (.cells (madeCells #[.slice none 0 0] row.length) 66) = W8 at *
        generalize WR.heap.size = g at *
        go_wp2
        go_loopg [37] row.length (fun gg v37 wi => ∃ f : Nat, f ≤ row.length ∧ row.length - f ≤ gg ∧ v37 = .int .i64 f ∧ Aside0 (DO w b5 (.slice A1 rk.length c1) (.int .i64 st) (.slice (some ad) M.length c2) rk st (.slice A9 rk.length c9) vm (fun k => b5 < k ∧ k < g) ((M.take q).map rowD) wi) ∧ Aside0 (kA2.R 66 wi w.heap.size (fun k => g ≤ k) (.slice (some ⟨g, 0, none⟩) row.length row.length) ((row.take f).map dualD ++ List.replicate (row.length - f) [])) ∧ Aside0 ((row.take f).all dualOk = true))
        case atStart => exact ⟨0, Nat.zero_le _, Nat.le_refl _, rfl, HOA, HRW, ⟨rfl⟩⟩
        case round =>
          clear HOA HRW HGL
          obtain ⟨f, hf, hgg, rfl, HO, HW, HA⟩ := hrel
          by_cases hlt : f < row.length
          · have hltz : (f : Int) < (row.length : Int) := by omega
            have HLF := Aside0.mk hlt
            obtain ⟨ad3, A3, c3, e, hk, hc3, halt⟩ := at_sl HROW.out f hlt
            subst e
            have hk2 := pw_cell_below (HO.out).dw.hb hk
            have HAM := Aside0.mk (getD_memY [] hlt)
            have HKF := Aside0.mk (show wrap64 ((f : Int) + 1) = ((f + 1 : Nat) : Int) by rw [wr_id (by omega) (by have := HRL2.out; omega)]; rfl)
            have HTF := Aside0.mk (show (row.take (f + 1)).map dualD = (row.take f).map dualD ++ [dualD (row.getD f [])] by
              rw [List.take_add_one, List.map_append, List.getD_eq_getElem?_getD, List.getElem?_eq_getElem hlt]; rfl)
            have HTA := Aside0.mk (show (row.take (f + 1)).all dualOk = ((row.take f).all dualOk && dualOk (row.getD f [])) by
              rw [List.take_add_one, List.all_append, List.getD_eq_getElem?_getD, List.getElem?_eq_getElem hlt]; simp)
            have HTL := Aside0.mk (show ((row.take f).map dualD).length = f by rw [List.length_map, List.length_take]; omega)
            have HALT := Aside0.mk (Kd.C_below halt (HO.out).dw.hb)
            have HIN := Aside0.mk (inN_of HOK.out HRM.out HAM.out)
            clear hk hc3 halt hlt hf
            generalize row.getD f [] = alts at *
            have HDL := Aside0.mk (dual_calls alts A3 c3 wr HALT.out (HIN.out).1 (HIN.out).2 ((HT.out).below (HO.out).dw.hb))
            go_wp2_with fail
            refine (HDL.out).mono ?_
            rintro E W9 ⟨v9, rfl, hR, hb⟩
            have HO9 := Aside0.mk ((HO.out).move hb)
            have HW9 := Aside0.mk (Kd.R_below HW.out hb)
            have HR9 := Aside0.mk (show kA1.R 69 W9 w.heap.size (fun k => wr.heap.size ≤ k) v9 (dualD alts) from Kd.R_lower hR (HO.out).dw.hb.size)
            have HGW := Aside0.mk (show g < wr.heap.size from (ownBlock_typed HW.out rfl).2)
            have HGC := Aside0.mk (ownBlock_typed HW9.out (k := g) rfl).1
            clear hR hb hk2 hltz HO HW HDL
            cases hok : dualOk alts with
            | false =>
              have HP := Aside0.mk (show dualR rk st M = (3, [], 0, []) by
                rw [HPR.out, if_neg]
                intro h
                have h1 := List.all_eq_true.1 (List.all_eq_true.1 h row HRM.out) alts HAM.out
                rw [hok] at h1
                cases h1)
              clear hok
              obtain ⟨⟨k0, k1, k2⟩, f0, f1, f2⟩ := (HO9.out).dw.rcells
              have HD3 := Aside0.mk ((HO9.out).dw.put (.slice none 0 0) (.int .i64 0) (.slice none 0 0))
              unfold put3 at HD3
              go_wp2
              refine bodyPost_ret (results_row_tmp rfl _ _ (w.heap.size + 1) 25 #[.slice none 0 0, .int .i64 0, .slice none 0 0] (0, 0) _ rfl (HD3.out).h2 Tryz.underlying25 rfl (by kernel_rfl)) rfl ?_
              rw [HP.out]
              exact ⟨_, _, rfl, Kd.R_nil _ _ _ _ _, Kd.R_nil _ _ _ _ _, (HD3.out).hb⟩
            | true =>
              have HA2 := Aside0.mk (show (row.take (f + 1)).all dualOk = true by rw [HTA.out, HA.out, hok]; rfl)
              obtain ⟨uc, hcu, hfu⟩ := R_cell1 HW9.out f HLF.out
              obtain ⟨hW2, _⟩ := R_puts HW9.out f HLF.out HR9.out (fun k hk => by have h1 : wr.heap.size ≤ k := hk; have h2 := HGW.out; exact ⟨by show g ≤ k; omega, by omega⟩)
              have HW2 := Aside0.mk (show kA2.R 66 (W9.setCell ⟨g, f, none⟩ v9) w.heap.size (fun k => g ≤ k) (.slice (some ⟨g, 0, none⟩) row.length row.length) ((row.take (f + 1)).map dualD ++ List.replicate (row.length - (f + 1)) []) from by
                rw [HTF.out, ← set_row HTL.out HLF.out]; exact hW2)
              obtain ⟨cg, hcg⟩ := HGC.out
              have HO2 := Aside0.mk ((HO9.out).far (j := f) hcg HGB.out (fun k hk => by have := hk.2; omega) v9)
              obtain ⟨A10, c10, e10⟩ := Kd.R_slice (HR9.out)
              subst e10
              have hltz : (f : Int) < (row.length : Int) := by have := HLF.out; omega
              clear hok hW2 hcg
              go_wp2
              go_roundg (row.length - (f + 1))
              case measure => have := HLF.out; omega
              case rel => exact ⟨f + 1, HLF.out, Nat.le_refl _, by rw [HKF.out], HO2, HW2, HA2⟩
          · obtain rfl : f = row.length := by omega
            have HWF := Aside0.mk (show kA2.R 66 wr w.heap.size (fun k => g ≤ k) (.slice (some ⟨g, 0, none⟩) row.length row.length) (rowD row) from by have := HW.out; rw [List.take_length, Nat.sub_self, List.replicate_zero, List.append_nil] at this; exact this)
            have HV2 := Aside0.mk (show mvOkD (M.take (q + 1)) = true by have h := HA.out; rw [List.take_length] at h; rw [HTV.out, HV.out, h]; rfl)
            have HMO := Aside0.mk ((HO.out).mono)
            have HOWN := Aside0.mk (show ∀ k, vm.ownBlock = some k → k < g from fun k hk => ((HO.out).rm.1 k hk).2)
            have kb2 : wr.cell? ⟨b5, 2, none⟩ = some vm := (blk_cell (HO.out).bx 2).trans rfl
            have HML := Aside0.mk (show ((M.take q).map rowD).length ≤ 6 by rw [List.length_map, List.length_take]; have := HNM.out; omega)
            have HL7 := Aside0.mk (show ((M.take q).map rowD ++ [rowD row]).length = q + 1 by rw [List.length_append, List.length_map, List.length_take, List.length_singleton]; have := HLT.out; omega)
            have HLR := Aside0.mk (show (rowD row).length = row.length by unfold rowD; rw [List.length_map])
            clear hf hgg hlt HW HA HO
            go_wp2_with ((with_reducible refine gate_builtin (b := .append) (xs := #[.tmp 56, .tmp 58]) rfl ?_); at_builtin; refine Kd.R_append kA3 (w0 := w) w.heap.size rfl (.tmp 56) (.tmp 58) 23 65 (.slice none 0 0) 24 rfl Tryz.underlying23 Q.info65 rfl (show 0 < 1 by decide) (by decide) vm ((M.take q).map rowD) (rowD row) [.slice (some ⟨g, 0, none⟩) row.length row.length] (fun k => b5 < k) (fun k => g ≤ k) rfl rfl ⟨_, rfl, HWF.out⟩ (fun k hk => ⟨by have h1 := HGB.out; have h3 : g ≤ k := hk; show b5 < k; omega, fun e => by have h1 := HOWN.out k e.symm; have h3 : g ≤ k := hk; omega⟩) (fun k hk => by have h1 := blk_lt (HMO.out).bx; have h3 : wr.heap.size ≤ k := hk; show b5 < k; omega) (HMO.out).rm (HMO.out).dw.hb (HMO.out).dw.hb.size (by have := HML.out; omega) ?_; intro v7 w7 ho7 hb7 hg7 hat7; have HO7 := Aside0.mk ((HMO.out).put (rowD row) ho7 hb7 hg7); rw [← HTK.out] at HO7; have HBK := Aside0.mk (blk_grown (HMO.out).bx hg7 (fun e => by have := (HMO.out).rm.1 _ e.symm; omega)); have k7 : w7.cell? ⟨b5, 2, none⟩ = some vm := (blk_cell HBK.out 2).trans rfl; have f7 := blk_frozen HBK.out 2; (obtain ⟨A7, c7, e7⟩ := Kd.R_slice ho7); rw [HL7.out] at e7; subst e7; clear ho7 hb7 hg7 hat7)
            go_roundg (M.length - (q + 1))
            case measure => have := HLT.out; omega
            case rel => exact ⟨q + 1, _, HLT.out, Nat.le_refl _, by rw [HKQ.out], HO7, HV2⟩
      · obtain rfl : q = M.length := by omega
        rw [List.take_length] at HO HV
        have HP := Aside0.mk (show dualR rk st M = (0, rk, st, M.map rowD) by rw [HPR.out, if_pos HV.out])
        obtain ⟨A7, c7, e7⟩ := Kd.R_slice (HO.out).rm
        rw [List.length_map] at e7
        subst e7
        have kb0 : wr.cell? ⟨b5, 0, none⟩ = some (.slice A9 rk.length c9) := (blk_cell (HO.out).bx 0).trans rfl
        have kb1 : wr.cell? ⟨b5, 1, none⟩ = some (.int .i64 st) := (blk_cell (HO.out).bx 1).trans rfl
        have kb2 : wr.cell? ⟨b5, 2, none⟩ = some (.slice A7 M.length c7) := (blk_cell (HO.out).bx 2).trans rfl
        obtain ⟨⟨k0, k1, k2⟩, f0, f1, f2⟩ := (HO.out).dw.rcells
        have HD3 := Aside0.mk ((HO.out).dw.put (.slice A9 rk.length c9) (.int .i64 st) (.slice A7 M.length c7))
        have HRR := Aside0.mk (Kd.R_mono (R_same (w1 := put3 wr (w.heap.size + 1) (.slice A9 rk.length c9) (.int .i64 st) (.slice A7 M.length c7)) (HO.out).rr (fun k hk _ => put3_heap _ _ _ _ _ k (by omega))) (ok' := fun k => w.heap.size ≤ k) (fun k hk => by omega))
        have HRM := Aside0.mk (Kd.R_mono (R_same (w1 := put3 wr (w.heap.size + 1) (.slice A9 rk.length c9) (.int .i64 st) (.slice A7 M.length c7)) (HO.out).rm (fun k hk _ => put3_heap _ _ _ _ _ k (by have h1 : b5 < k := hk; have := (HO.out).hbl; omega))) (ok' := fun k => w.heap.size ≤ k) (fun k hk => by have h1 : b5 < k := hk; have := (HO.out).hbl; omega))
        unfold put3 at HD3 HRR HRM
        clear HO HV hq hgg hlt
        go_wp2
        refine bodyPost_ret (results_row_tmp rfl _ _ (w.heap.size + 1) 25 #[.slice A9 rk.length c9, .int .i64 st, .slice A7 M.length c7] (0, 0) _ rfl (HD3.out).h2 Tryz.underlying25 rfl (by kernel_rfl)) rfl ?_
        rw [HP.out]
        exact ⟨_, _, rfl, HRR.out, HRM.out, (HD3.out).hb⟩
end Go.Proofs.YtbmcigakiibncaaGreatDoor.H
namespace Go.Proofs.YtbmcigakiibncaaGreatDoor.H
open Go.RowKit Go.Proofs.YtbmcigakiibncaaGreatDoorW.PrintWords Go.Proofs.YtbmcigakiibncaaGreatDoorW.PrintLast Go.Proofs.YtbmcigakiibncaaGreatDoorW.PrintMore
set_option linter.unusedVariables false
set_option linter.unusedSimpArgs false
def loopsOf : Code → List Code
  | .loop c => c :: loopsOf c
  | .seq a b => loopsOf a ++ loopsOf b
  | .block _ c => loopsOf c
  | .scope c => loopsOf c
  | .cond _ a b => loopsOf a ++ loopsOf b
  | _ => []
noncomputable def body26 : Code := ((Tryz.f26.body.map loopsOf).getD []).getD 2 .skip
theorem cutL_calls (l : List UInt8) (X : ByteArray) (c : UInt8) (W : World) (h : X.data.toList = l) (hs : X.size ≤ 70000) (hm : MX W) :
    Calls Tryz.prog 62 #[.string X, .string ⟨#[c]⟩] W fun e w' => e = .returned (.tuple #[.string ⟨(Lib.cut l [c]).1.toArray⟩, .string ⟨(Lib.cut l [c]).2.1.toArray⟩, .bool (Lib.cut l [c]).2.2]) ∧ Below W.heap.size W w' := by
  obtain ⟨m, hm⟩ := hm
  refine (Tryz.strings_Cut X ⟨#[c]⟩ m W (by omega) hm).mono ?_
  rintro e w' ⟨rfl, n, rfl⟩
  rw [h]
  exact ⟨rfl, pw_below_drewN (Below.refl _ _) n⟩
theorem gstep_bad {states : Int} {m : Nat} {s : ByteArray} {r : List ByteArray} {last : Int} {M : Mv} (h : (lnGo s && lnOk states m last s) = false) : gstep states m (s :: r) last M = none := by
  rw [gstep, h]; rfl
theorem gstep_alt {states : Int} {m : Nat} {s : ByteArray} {r : List ByteArray} {last : Int} {M : Mv} (hz : lnZ s = none) : gstep states m (s :: r) last M = none := by
  rw [gstep, hz]
  split <;> rfl
theorem gstep_go {states : Int} {m : Nat} {s : ByteArray} {r : List ByteArray} {last : Int} {M : Mv} {z : List Nd} (h : (lnGo s && lnOk states m last s) = true) (hz : lnZ s = some z) :
    gstep states m (s :: r) last M = gstep states m r (lnQ s * m + lnF s) (if lnQ s < M.length then addAlt M (lnQ s).toNat (lnF s).toNat z else M) := by
  rw [gstep, h, hz]; rfl
theorem num0_range {l : List UInt8} (h : numOk l = true) : 0 ≤ num0V l ∧ num0V l ≤ 1000000000 := num_nonneg (s := ⟨l.toArray⟩) h
theorem addAlt_cnt {M : Mv} {q f k : Nat} {z : List Nd} (hq : q < M.length) (hf : f < (M.getD q []).length) (h : ∀ a b, ((M.getD a []).getD b []).length ≤ k) : ∀ a b, (((addAlt M q f z).getD a []).getD b []).length ≤ k + 1 := by
  intro a b
  rw [addAlt_row hq]
  by_cases e : a = q
  · rw [if_pos e, setD hf]
    split
    · have := h q f
      rw [List.length_append, List.length_singleton]; omega
    · have := h q b; omega
  · rw [if_neg e]; have := h a b; omega
theorem size_toArray (l : List UInt8) : (⟨l.toArray⟩ : ByteArray).size = l.length := List.size_toArray
theorem mul_bound {q : Int} {m : Nat} (h0 : 0 ≤ q) (h1 : q ≤ 1000000000) (hm : m ≤ 65536) : 0 ≤ q * m ∧ q * m ≤ 65536000000000 := by
  refine ⟨Int.mul_nonneg h0 (by omega), ?_⟩
  have h2 : q * m ≤ 1000000000 * m := Int.mul_le_mul_of_nonneg_right h1 (by omega)
  omega
def tabT26 : Bool × List (List Nat × List Nat) := (true, [([], []), ([0], [0]), ([], []), ([1, 2], [1, 2]), ([3], [3]), ([], []), ([], []), ([6], [6]), ([], []), ([7, 8], [7, 8]), ([9], [9]), ([], []), ([10, 11], [10, 11]), ([12], [12]), ([], []), ([14], [14]), ([13, 15], [13, 15]), ([4, 5, 0, 1, 2, 3, 4, 5, 6, 7, 8, 9, 10, 11, 12, 13, 14, 15, 16], [4, 5]), ([17, 16, 16, 0, 1, 2, 3, 4, 5, 6, 7, 8, 9, 10, 11, 12, 13, 14, 15, 16], [16, 17])])
theorem tab26 : rtab .any (opsOf Tryz.f26 35) = tabT26 := by kernel_rfl
theorem bits26 : waitsOk tabT26.2 [0, 1, 0, 7, 15, 0, 0, 64, 0, 448, 960, 0, 4032, 8128, 0, 16384, 65472, 131071, 262143] = true := by kernel_rfl
set_option maxHeartbeats 16000000 in
set_option maxRecDepth 1000000 in
theorem loop26 (t : ByteArray) (w : World) (L wd : List ByteArray) (n N bl cp : Nat) (A : Option Addr) (c : Nat) (A2 : Option Addr) (c2 : Nat) (st states : Int) (K : Act → World → Prop) (wr : World) (M0 : Mv) (gs0 : List Nat) (uu0 : Nat → Nat → Value)
    (u0 u1 u4 u5 u6 u7 u10 u11 u12 u13 u14 u15 u16 u17 u18 u19 u20 u21 u22 u23 u24 u25 u26 u27 u28 u29 u30 u31 u32 u33 u34 u35 u36 u37 u38 u39 u40 u41 u42 u43 u44 u45 u46 u47 u48 u49 u50 u51 u52 u53 u54 u55 u56 u57 u58 u59 u60 u61 u62 u63 u64 u65 u66 u67 u68 u69 u70 u71 u72 u73 u74 u75 u76 u77 u78 u79 u80 u81 u82 u83 u84 u85 u86 u87 u88 u89 u90 u91 u92 u93 u94 u95 u96 u97 u98 u99 u100 u104 u105 u106 u107 u108 u109 u110 u111 u112 u113 u114 u115 u116 u117 u118 u119 u120 u121 u122 u123 u124 u125 u126 u127 u128 u129 u130 u131 u132 u133 u134 u135 u136 u137 u138 u139 u140 u141 u142 u143 u144 u145 u146 u147 u148 u149 u150 u151 u152 u153 u154 u155 u156 u157 u158 u159 u160 u161 u162 u163 u164 u165 u166 u167 u168 u169 u170 u171 u172 u173 u174 u175 u176 u177 u178 u179 u180 u181 u182 u183 u184 u185 u186 u187 u188 u189 u190 u191 : Value)
    (HSZ : Aside0 (t.size ≤ 65536)) (HM : Aside0 (MX w)) (HCS : Aside0 (∀ i, (L.getD i ByteArray.empty).size ≤ t.size)) (HWL : Aside0 (wd.length ≤ 65536)) (HNL : Aside0 (L.length = n + 3)) (HLN : Aside0 (n ≤ 65536)) (HN7 : Aside0 (N ≤ 7 ∧ N = (min states 7).toNat)) (HST : Aside0 (0 ≤ states ∧ states ≤ 1000000000)) (HML : Aside0 (M0.length = N)) (HCN : Aside0 (∀ a b, ((M0.getD a []).getD b []).length ≤ 0))
    (HG : Aside0 (GL w wr (.slice A wd.length c) (.int .i64 st) (.slice A2 N c2) bl L)) (HR : Aside0 (Kd.R (Kd.int .i64) 3 wr w.heap.size (fun k => w.heap.size + 2 ≤ k) (.slice A wd.length c) (wd.map valW))) (HMM : Aside0 (MM w.heap.size (w.heap.size + 2) wr (.slice A2 N c2) M0 wd.length gs0 uu0))
    (HV : Aside0 (getV t = (gstep states wd.length ((L.drop 2).take n) (-1) M0).map fun M => (wd.map valW, st, M)))
    (hK : Aside0 (∀ (u9 u11 u12 u13 u14 u15 u16 u17 u18 u19 u20 u103 u104 u105 u106 u107 u108 u109 u110 u111 u112 u113 u114 u115 u116 u117 u118 u119 u120 u121 u122 u123 u124 u125 u126 u127 u128 u129 u130 u131 u132 u133 u134 u135 u136 u137 u138 u139 u140 u141 u142 u143 u144 u145 u146 u147 u148 u149 u150 u151 u152 u153 u154 u155 u156 u157 u158 u159 u160 u161 u162 u163 u164 u165 u166 u167 u168 u169 u170 u171 u172 u173 u174 u175 u176 u177 u178 u179 u180 u181 u182 u183 u184 u185 u186 : Value) (W : World) (M : Mv) (gs : List Nat) (uu : Nat → Nat → Value), GL w W (.slice A wd.length c) (.int .i64 st) (.slice A2 N c2) bl L → Kd.R (Kd.int .i64) 3 W w.heap.size (fun k => w.heap.size + 2 ≤ k) (.slice A wd.length c) (wd.map valW) → MM w.heap.size (w.heap.size + 2) W (.slice A2 N c2) M wd.length gs uu → M.length = N → getV t = some (wd.map valW, st, M) →
      K { tmps := List.toArray (u0 :: u1 :: (.pointer (some ⟨w.heap.size, 0, none⟩)) :: (.pointer (some ⟨w.heap.size + 1, 0, none⟩)) :: u4 :: u5 :: u6 :: u7 :: (.int .i64 states) :: u9 :: u10 :: u11 :: u12 :: u13 :: u14 :: u15 :: u16 :: u17 :: u18 :: u19 :: u20 :: u21 :: u22 :: u23 :: u24 :: u25 :: u26 :: u27 :: u28 :: u29 :: u30 :: u31 :: u32 :: u33 :: u34 :: u35 :: u36 :: u37 :: u38 :: u39 :: u40 :: u41 :: u42 :: u43 :: u44 :: u45 :: u46 :: u47 :: u48 :: u49 :: u50 :: u51 :: u52 :: u53 :: u54 :: u55 :: u56 :: u57 :: u58 :: u59 :: u60 :: u61 :: u62 :: u63 :: u64 :: u65 :: u66 :: u67 :: u68 :: u69 :: u70 :: u71 :: u72 :: u73 :: u74 :: u75 :: u76 :: u77 :: u78 :: u79 :: u80 :: u81 :: u82 :: u83 :: u84 :: u85 :: u86 :: u87 :: u88 :: u89 :: u90 :: u91 :: u92 :: u93 :: u94 :: u95 :: u96 :: u97 :: u98 :: u99 :: u100 :: (.slice (some ⟨bl, 2, none⟩) n cp) :: (.int .i64 (n : Int)) :: u103 :: u104 :: u105 :: u106 :: u107 :: u108 :: u109 :: u110 :: u111 :: u112 :: u113 :: u114 :: u115 :: u116 :: u117 :: u118 :: u119 :: u120 :: u121 :: u122 :: u123 :: u124 :: u125 :: u126 :: u127 :: u128 :: u129 :: u130 :: u131 :: u132 :: u133 :: u134 :: u135 :: u136 :: u137 :: u138 :: u139 :: u140 :: u141 :: u142 :: u143 :: u144 :: u145 :: u146 :: u147 :: u148 :: u149 :: u150 :: u151 :: u152 :: u153 :: u154 :: u155 :: u156 :: u157 :: u158 :: u159 :: u160 :: u161 :: u162 :: u163 :: u164 :: u165 :: u166 :: u167 :: u168 :: u169 :: u170 :: u171 :: u172 :: u173 :: u174 :: u175 :: u176 :: u177 :: u178 :: u179 :: u180 :: u181 :: u182 :: u183 :: u184 :: u185 :: u186 :: u187 :: u188 :: u189 :: u190 :: u191 :: []), defers := [{ target := .fn (.func 58) #[.pointer (some ⟨w.heap.size, 0, none⟩), .pointer (some ⟨w.heap.size + 1, 0, none⟩)], args := #[] }] } W)) :
    Code.wp Tryz.prog (Code.loop body26) (Exit.inBlock 4 (Exit.then K (bodyPostD Tryz.prog Tryz.f26 (GetE t w)))) { tmps := List.toArray (u0 :: u1 :: (.pointer (some ⟨w.heap.size, 0, none⟩)) :: (.pointer (some ⟨w.heap.size + 1, 0, none⟩)) :: u4 :: u5 :: u6 :: u7 :: (.int .i64 states) :: (.int .i64 (-1)) :: u10 :: u11 :: u12 :: u13 :: u14 :: u15 :: u16 :: u17 :: u18 :: u19 :: u20 :: u21 :: u22 :: u23 :: u24 :: u25 :: u26 :: u27 :: u28 :: u29 :: u30 :: u31 :: u32 :: u33 :: u34 :: u35 :: u36 :: u37 :: u38 :: u39 :: u40 :: u41 :: u42 :: u43 :: u44 :: u45 :: u46 :: u47 :: u48 :: u49 :: u50 :: u51 :: u52 :: u53 :: u54 :: u55 :: u56 :: u57 :: u58 :: u59 :: u60 :: u61 :: u62 :: u63 :: u64 :: u65 :: u66 :: u67 :: u68 :: u69 :: u70 :: u71 :: u72 :: u73 :: u74 :: u75 :: u76 :: u77 :: u78 :: u79 :: u80 :: u81 :: u82 :: u83 :: u84 :: u85 :: u86 :: u87 :: u88 :: u89 :: u90 :: u91 :: u92 :: u93 :: u94 :: u95 :: u96 :: u97 :: u98 :: u99 :: u100 :: (.slice (some ⟨bl, 2, none⟩) n cp) :: (.int .i64 (n : Int)) :: (.int .i64 0) :: u104 :: u105 :: u106 :: u107 :: u108 :: u109 :: u110 :: u111 :: u112 :: u113 :: u114 :: u115 :: u116 :: u117 :: u118 :: u119 :: u120 :: u121 :: u122 :: u123 :: u124 :: u125 :: u126 :: u127 :: u128 :: u129 :: u130 :: u131 :: u132 :: u133 :: u134 :: u135 :: u136 :: u137 :: u138 :: u139 :: u140 :: u141 :: u142 :: u143 :: u144 :: u145 :: u146 :: u147 :: u148 :: u149 :: u150 :: u151 :: u152 :: u153 :: u154 :: u155 :: u156 :: u157 :: u158 :: u159 :: u160 :: u161 :: u162 :: u163 :: u164 :: u165 :: u166 :: u167 :: u168 :: u169 :: u170 :: u171 :: u172 :: u173 :: u174 :: u175 :: u176 :: u177 :: u178 :: u179 :: u180 :: u181 :: u182 :: u183 :: u184 :: u185 :: u186 :: u187 :: u188 :: u189 :: u190 :: u191 :: []), defers := [{ target := .fn (.func 58) #[.pointer (some ⟨w.heap.size, 0, none⟩), .pointer (some ⟨w.heap.size + 1, 0, none⟩)], args := #[] }] } wr := by
  conv => arg 2; arg 1; whnf
  go_loopg [103, 9] n (fun gg v103 v9 wi => ∃ (k : Nat) (last : Int) (M : Mv) (gs : List Nat) (uu : Nat → Nat → Value), k ≤ n ∧ n - k ≤ gg ∧ v103 = .int .i64 k ∧ v9 = .int .i64 last ∧ Aside0 (GL w wi (.slice A wd.length c) (.int .i64 st) (.slice A2 N c2) bl L) ∧ Aside0 (Kd.R (Kd.int .i64) 3 wi w.heap.size (fun k => w.heap.size + 2 ≤ k) (.slice A wd.length c) (wd.map valW)) ∧ Aside0 (MM w.heap.size (w.heap.size + 2) wi (.slice A2 N c2) M wd.length gs uu) ∧ Aside0 (M.length = N) ∧ Aside0 (getV t = (gstep states wd.length (((L.drop 2).take n).drop k) last M).map fun M => (wd.map valW, st, M)) ∧ Aside0 (-1 ≤ last ∧ last ≤ 70000000000000) ∧ Aside0 (∀ a b, ((M.getD a []).getD b []).length ≤ k))
  case atStart => exact ⟨0, -1, M0, gs0, uu0, Nat.zero_le _, Nat.le_refl _, rfl, rfl, HG, HR, HMM, HML, HV, ⟨by omega⟩, HCN⟩
  case round =>
    clear HG HR HMM HML HV HCN
    obtain ⟨k, last, M, gs, uu, hk, hgg, rfl, rfl, HG, HR, HMM, HML, HV, HLA, HCN⟩ := hrel
    by_cases hlt : k < n
    · have hltz : (k : Int) < (n : Int) := by omega
      have HLT := Aside0.mk hlt
      have hk := strs_cell (HG.out).l (show 2 + k < L.length by rw [HNL.out]; omega)
      have HS1Z := Aside0.mk (HCS.out (2 + k))
      have HDR := Aside0.mk (show ((L.drop 2).take n).drop k = L.getD (2 + k) ByteArray.empty :: ((L.drop 2).take n).drop (k + 1) from by
        have hl : k < ((L.drop 2).take n).length := by rw [List.length_take, List.length_drop, HNL.out]; omega
        rw [List.drop_eq_getElem_cons hl]
        congr 1
        have h2 : 2 + k < L.length := by rw [HNL.out]; omega
        simp [List.getD_eq_getElem?_getD, h2])
      generalize L.getD (2 + k) ByteArray.empty = s at *
      have HBAD := Aside0.mk (fun (h : (lnGo s && lnOk states wd.length last s) = false) => (show getV t = none by rw [HV.out, HDR.out, gstep_bad h]; rfl))
      have HBZ := Aside0.mk (fun (h : lnZ s = none) => (show getV t = none by rw [HV.out, HDR.out, gstep_alt h]; rfl))
      have HSL := Aside0.mk (show s.data.toList.length ≤ 65536 from by rw [← Lib.size_eq]; have := HS1Z.out; have := HSZ.out; omega)
      have HC1 := Aside0.mk (cutL_calls s.data.toList s 58 wr rfl (by rw [Lib.size_eq]; have := HSL.out; omega) ((HM.out).below (HG.out).g.hb))
      have HAT := Aside0.mk (show lnAt s = Lib.cut s.data.toList [58] from rfl)
      have HATZ := Aside0.mk (cut_size s.data.toList [58])
      generalize Lib.cut s.data.toList [58] = p1 at HC1 HAT HATZ
      obtain ⟨a1, r1, o1⟩ := p1
      have HA1Z := Aside0.mk (show a1.length ≤ 65536 from Nat.le_trans (HATZ.out).1 HSL.out)
      have HR1Z := Aside0.mk (show r1.length ≤ 65536 from Nat.le_trans (HATZ.out).2 HSL.out)
      clear HATZ
      go_wp2_with fail
      refine (HC1.out).mono ?_
      rintro E w4 ⟨rfl, hb⟩
      have HG4 := Aside0.mk ((HG.out).below hb)
      have HR4 := Aside0.mk (Kd.R_below HR.out hb)
      have HM4 := Aside0.mk ((HMM.out).below hb)
      clear hb HG HR HMM hk HC1
      have HC2 := Aside0.mk (cutL_calls a1 ⟨a1.toArray⟩ 32 w4 rfl (by rw [size_toArray]; have := HA1Z.out; omega) ((HM.out).below (HG4.out).g.hb))
      have HXY := Aside0.mk (show lnXY s = Lib.cut a1 [32] by unfold lnXY; rw [HAT.out])
      have HXYZ := Aside0.mk (cut_size a1 [32])
      generalize Lib.cut a1 [32] = p2 at HC2 HXY HXYZ
      obtain ⟨a2, r2, o2⟩ := p2
      have HA2Z := Aside0.mk (show a2.length ≤ 65536 from Nat.le_trans (HXYZ.out).1 HA1Z.out)
      have HR2Z := Aside0.mk (show r2.length ≤ 65536 from Nat.le_trans (HXYZ.out).2 HA1Z.out)
      clear HXYZ
      go_wp2_with fail
      refine (HC2.out).mono ?_
      rintro E w5 ⟨rfl, hb⟩
      have HG5 := Aside0.mk ((HG4.out).below hb)
      have HR5 := Aside0.mk (Kd.R_below HR4.out hb)
      have HM5 := Aside0.mk ((HM4.out).below hb)
      clear hb HG4 HR4 HM4 HC2
      cases o1 with
      | false =>
        have HN := Aside0.mk (HBAD.out (by unfold lnGo; rw [HAT.out]; rfl))
        go_wp2
        exact get_panic (getR_bad HSZ.out HN.out) (HG5.out).g _ rfl rfl
      | true =>
      cases o2 with
      | false =>
        have HN := Aside0.mk (HBAD.out (by unfold lnGo; rw [HXY.out, HAT.out]; rfl))
        go_wp2
        exact get_panic (getR_bad HSZ.out HN.out) (HG5.out).g _ rfl rfl
      | true =>
      have HN1 := Aside0.mk (show Calls Tryz.prog 61 #[.string ⟨a2.toArray⟩] w5 fun E w' => E = numE a2 ∧ Below w5.heap.size w5 w' from number_calls ⟨a2.toArray⟩ w5 (by rw [size_toArray]; have := HA2Z.out; omega))
      go_wp2_with fail
      refine (HN1.out).mono ?_
      rintro E w6 ⟨rfl, hb⟩
      have HG6 := Aside0.mk ((HG5.out).below hb)
      have HR6 := Aside0.mk (Kd.R_below HR5.out hb)
      have HM6 := Aside0.mk ((HM5.out).below hb)
      clear hb HG5 HR5 HM5 HN1
      cases q1 : numOk a2 with
      | false =>
        have HN := Aside0.mk (HBAD.out (by unfold lnGo; rw [HXY.out, HAT.out, q1]; rfl))
        rw [show numE a2 = pbad by unfold numE; rw [q1]; rfl]
        unfold pbad
        clear q1
        go_wp2
        exact get_panic (getR_bad HSZ.out HN.out) (HG6.out).g _ rfl rfl
      | true =>
      rw [show numE a2 = .returned (.int .i64 (num0V a2)) by unfold numE; rw [q1]; rfl]
      have HN2 := Aside0.mk (show Calls Tryz.prog 61 #[.string ⟨r2.toArray⟩] w6 fun E w' => E = numE r2 ∧ Below w6.heap.size w6 w' from number_calls ⟨r2.toArray⟩ w6 (by rw [size_toArray]; have := HR2Z.out; omega))
      have HQ1 := Aside0.mk q1
      clear q1
      go_wp2_with fail
      refine (HN2.out).mono ?_
      rintro E w7 ⟨rfl, hb⟩
      have HG7 := Aside0.mk ((HG6.out).below hb)
      have HR7 := Aside0.mk (Kd.R_below HR6.out hb)
      have HM7 := Aside0.mk ((HM6.out).below hb)
      clear hb HG6 HR6 HM6 HN2
      cases q2 : numOk r2 with
      | false =>
        have HN := Aside0.mk (HBAD.out (by unfold lnGo; rw [HXY.out, HAT.out, q2, HQ1.out]; rfl))
        rw [show numE r2 = pbad by unfold numE; rw [q2]; rfl]
        unfold pbad
        clear q2
        go_wp2
        exact get_panic (getR_bad HSZ.out HN.out) (HG7.out).g _ rfl rfl
      | true =>
      rw [show numE r2 = .returned (.int .i64 (num0V r2)) by unfold numE; rw [q2]; rfl]
      have HGO := Aside0.mk (show lnGo s = true by unfold lnGo; rw [HXY.out, HAT.out, q2, HQ1.out]; rfl)
      obtain ⟨qa, qb⟩ := num0_range HQ1.out
      obtain ⟨fa, fb⟩ := num0_range q2
      have HLQ := Aside0.mk (show lnQ s = num0V a2 by unfold lnQ; rw [HXY.out])
      have HLF := Aside0.mk (show lnF s = num0V r2 by unfold lnF; rw [HXY.out])
      clear q2 HQ1
      generalize num0V a2 = q at *
      generalize num0V r2 = f at *
      obtain ⟨ma, mb⟩ := mul_bound (m := wd.length) qa qb HWL.out
      obtain ⟨k0, k1, k2, k3⟩ := (HG7.out).g.cells
      obtain ⟨qm, hqm⟩ : ∃ x, q * (wd.length : Int) = x := ⟨_, rfl⟩
      rw [hqm] at ma mb
      have hm1 : wrap64 (q * (wd.length : Int)) = qm := by rw [hqm]; exact wr_id (by omega) (by omega)
      have HOKD := Aside0.mk (show lnOk states wd.length last s = !(decide (q ≥ states) || decide (f ≥ (wd.length : Int)) || decide (qm + f < last)) by unfold lnOk; rw [HLQ.out, HLF.out, hqm])
      have HQM := Aside0.mk (show lnQ s * (wd.length : Int) + lnF s = qm + f by rw [HLQ.out, HLF.out, hqm])
      clear hqm
      have hm2 : wrap64 (qm + f) = qm + f := wr_id (by omega) (by omega)
      have HBO := Aside0.mk (fun (h : (decide (q ≥ states) || decide (f ≥ (wd.length : Int)) || decide (qm + f < last)) = true) => HBAD.out (by rw [HOKD.out, h]; simp))
      cases t1 : decide (q ≥ states) with
      | true =>
        have HN := Aside0.mk (HBO.out (by rw [t1]; rfl))
        go_wp2
        exact get_panic (getR_bad HSZ.out HN.out) (HG7.out).g _ rfl rfl
      | false =>
      cases t2 : decide (f ≥ (wd.length : Int)) with
      | true =>
        have HN := Aside0.mk (HBO.out (by rw [t1, t2]; rfl))
        go_wp2
        exact get_panic (getR_bad HSZ.out HN.out) (HG7.out).g _ rfl rfl
      | false =>
      cases t3 : decide (qm + f < last) with
      | true =>
        have HN := Aside0.mk (HBO.out (by rw [t1, t2, t3]; rfl))
        go_wp2
        exact get_panic (getR_bad HSZ.out HN.out) (HG7.out).g _ rfl rfl
      | false =>
      have HOK := Aside0.mk (show (lnGo s && lnOk states wd.length last s) = true by rw [HGO.out, HOKD.out, t1, t2, t3]; rfl)
      have HAL := Aside0.mk (alternative_calls ⟨r1.toArray⟩ w7 (by rw [size_toArray]; have := HR1Z.out; omega) ((HM.out).below (HG7.out).g.hb))
      go_wp2_with fail
      have HFM := Aside0.mk (show f < (wd.length : Int) from by have := of_decide_eq_false t2; omega)
      clear t1 t2 t3
      refine (HAL.out).mono ?_
      rintro E w8 ⟨hb, ⟨hno, rfl⟩ | ⟨ys, v, hys, rfl, hRz⟩⟩
      · have HN := Aside0.mk (HBZ.out (show lnZ s = none by unfold lnZ; rw [HAT.out]; exact hno))
        have HG8 := Aside0.mk ((HG7.out).below hb)
        unfold pbad
        go_wp2
        exact get_panic (getR_bad HSZ.out HN.out) (HG8.out).g _ rfl rfl
      have HZ := Aside0.mk (show lnZ s = some ys by unfold lnZ; rw [HAT.out]; exact hys)
      have HG8 := Aside0.mk ((HG7.out).below hb)
      have HR8 := Aside0.mk (Kd.R_below HR7.out hb)
      have HM8 := Aside0.mk ((HM7.out).below hb)
      have H78 := Aside0.mk (show w.heap.size + 2 ≤ w7.heap.size ∧ w7.heap.size ≤ w8.heap.size from ⟨by have := blk_lt (HG7.out).l; have := (HG7.out).hbl; omega, hb.size⟩)
      have HRZ := Aside0.mk (Kd.R_lower hRz (show w.heap.size ≤ w7.heap.size by have := blk_lt (HG7.out).l; have := (HG7.out).hbl; omega))
      have HOLD := Aside0.mk (fun (a b : Nat) (ha : a < M.length) (hb' : b < wd.length) (kk : Nat) (hkk : (uu a b).ownBlock = some kk) => (ownBlock_typed ((HM7.out).alts a b ha hb') hkk).2)
      have HSTEP := Aside0.mk (show getV t = (gstep states wd.length (((L.drop 2).take n).drop (k + 1)) (qm + f) (if q < (M.length : Int) then addAlt M q.toNat f.toNat ys else M)).map fun M => (wd.map valW, st, M) by rw [HV.out, HDR.out, gstep_go HOK.out HZ.out, HQM.out, HLQ.out, HLF.out])
      have HKZ := Aside0.mk (show wrap64 ((k : Int) + 1) = ((k + 1 : Nat) : Int) by rw [wr_id (by omega) (by have := HLN.out; omega)]; rfl)
      obtain ⟨A3, c3, rfl⟩ := Kd.R_slice hRz
      clear hb hys hRz HG7 HR7 HM7 HAL HV HBAD HBZ HBO HOKD HOK HQM HLQ HLF HGO HZ HXY HAT HDR k0 k1 k2 k3
      obtain ⟨qn, rfl⟩ := Int.eq_ofNat_of_zero_le qa
      obtain ⟨fn, rfl⟩ := Int.eq_ofNat_of_zero_le fa
      have hfm : fn < wd.length := by have := HFM.out; omega
      obtain ⟨k0, k1, k2, k3⟩ := (HG8.out).g.cells
      have HLA2 := Aside0.mk (show -1 ≤ qm + (fn : Int) ∧ qm + (fn : Int) ≤ 70000000000000 from by omega)
      by_cases hqN : qn < N
      · have hqM : qn < M.length := by rw [HML.out]; exact hqN
        have HSTEP2 := Aside0.mk (show getV t = (gstep states wd.length (((L.drop 2).take n).drop (k + 1)) (qm + fn) (addAlt M qn fn ys)).map fun M => (wd.map valW, st, M) by rw [HSTEP.out, if_pos (by omega)]; rfl)
        obtain ⟨ab, cap, e1, r0, c0, f0, ⟨abc, hab⟩, ⟨gbc, hgb⟩, hgB⟩ := (HM8.out).at hqM hfm
        injection e1 with e1 e2 e3
        subst e1 e3
        have HAB := Aside0.mk hab
        have HGB := Aside0.mk hgb
        have HGBB := Aside0.mk hgB
        have HQM2 := Aside0.mk (And.intro hqM hfm)
        have HUB := Aside0.mk (HOLD.out qn fn hqM hfm)
        have HLM := Aside0.mk (show ((M.getD qn []).getD fn []).length ≤ 65536 from by have := HCN.out qn fn; have := HLN.out; omega)
        have HCN2 := Aside0.mk (addAlt_cnt (z := ys) hqM (by rw [((HM8.out).rows qn hqM).2.2]; exact hfm) HCN.out)
        obtain ⟨A4, c4, e4⟩ := Kd.R_slice ((HM8.out).alts qn fn hqM hfm)
        rw [e4] at c0
        have HE4 := Aside0.mk e4
        have hqNz : (qn : Int) < (N : Int) := by omega
        clear hab hgb hgB hqM e2 e4 HOLD HCN
        have hbD := below_drew (Below.refl w8.heap.size w8)
        have HGA := Aside0.mk ((HG8.out).below hbD)
        have HRA := Aside0.mk (Kd.R_below HR8.out hbD)
        have HMA := Aside0.mk ((HM8.out).below hbD)
        have HRZA := Aside0.mk (Kd.R_below HRZ.out hbD)
        have HALT := Aside0.mk (show kA1.R 69 w8.drew w.heap.size (fun k => w.heap.size + 2 ≤ k) (.slice A4 ((M.getD qn []).getD fn []).length c4) ((M.getD qn []).getD fn []) from by rw [← HE4.out]; exact (HMA.out).alts qn fn (HQM2.out).1 (HQM2.out).2)
        have HUB2 := Aside0.mk (show ∀ kk, (Value.slice A4 ((M.getD qn []).getD fn []).length c4).ownBlock = some kk → kk < w7.heap.size from by rw [← HE4.out]; exact HUB.out)
        have HABD := Aside0.mk (blk_below HAB.out hbD)
        have HGBD := Aside0.mk (blk_below HGB.out hbD)
        have HRD := Aside0.mk (pw_cell_below hbD r0)
        have HCD := Aside0.mk (pw_cell_below hbD c0)
        have HBLG := Aside0.mk (types_ne (HGA.out).l HGBD.out (by decide))
        have HMAdd := Aside0.mk (fun v5 w5 h1 h2 h3 => (HMA.out).add (W1 := w5) (HQM2.out).1 (HQM2.out).2 ys v5 h1 h2 h3)
        rw [HE4.out] at HMAdd
        have HLEN := Aside0.mk (show ((M.getD qn []).getD fn []).length + 1 = ((M.getD qn []).getD fn [] ++ [ys]).length from by simp)
        clear hbD HUB HAB HGB
        generalize hgg0 : gs.getD qn 0 = g at *
        clear hgg0
        generalize hll : ((M.getD qn []).getD fn []).length = len at *
        have HLL := Aside0.mk hll
        clear hll
        go_upto_region 35 with (fail)
        refine wp_region_noPanic ?_
        refine start_ (n := 19) (S := fun w' => w'.cell? ⟨w.heap.size, 2, none⟩ = some (.slice (some ⟨ab, 0, none⟩) N c2) ∧ w'.cell? ⟨ab, qn, none⟩ = some (.slice (some ⟨g, 0, none⟩) wd.length wd.length) ∧ w'.cell? ⟨g, fn, none⟩ = some (.slice A4 len c4)) (ds := [18]) #[false, false, false, false, false, false, false, false, false, false, false, false, false, false, false, false, false, false, false] (by kernel_rfl) rfl rfl ⟨pw_cell_below (below_drew (Below.refl _ _)) k2, HRD.out, HCD.out⟩ (fun hHeld => ?_)
        refine with_tabW tab26 bits26 (fun HT_ HW_ => ?_)
        clear k0 k1 k2 k3 r0 c0 f0
        refine take_ (i := 0) (N := some 168) (v := ?_) (a' := ?_) #[true, false, false, false, false, false, false, false, false, false, false, false, false, false, false, false, false, false, false] rfl rfl (take_ofW HT_.out HW_.out (by kernel_rfl)) (fun _ _ _ h => h) (Or.inl ⟨by rfl, ?_⟩) hHeld ?_ ?_
        rotate_left
        · rintro w' ⟨s0, s1, s2⟩
          go_simp
          with_reducible rfl
        rotate_left
        · simp only [Act.put, List.setIfInBounds_toArray, List.set_cons_zero, List.set_cons_succ]
          rfl
        refine take_ (i := 1) (N := some 169) (v := ?_) (a' := ?_) #[true, true, false, false, false, false, false, false, false, false, false, false, false, false, false, false, false, false, false] rfl rfl (take_ofW HT_.out HW_.out (by kernel_rfl)) (fun _ _ _ h => h) (Or.inl ⟨by rfl, ?_⟩) hHeld ?_ ?_
        rotate_left
        · rintro w' ⟨s0, s1, s2⟩
          go_simp
          with_reducible rfl
        rotate_left
        · simp only [Act.put, List.setIfInBounds_toArray, List.set_cons_zero, List.set_cons_succ]
          rfl
        refine take_ (i := 2) (N := some 170) (v := ?_) (a' := ?_) #[true, true, true, false, false, false, false, false, false, false, false, false, false, false, false, false, false, false, false] rfl rfl (take_ofW HT_.out HW_.out (by kernel_rfl)) (fun _ _ _ h => h) (Or.inl ⟨by rfl, ?_⟩) hHeld ?_ ?_
        rotate_left
        · rintro w' ⟨s0, s1, s2⟩
          go_simp
          with_reducible rfl
        rotate_left
        · simp only [Act.put, List.setIfInBounds_toArray, List.set_cons_zero, List.set_cons_succ]
          rfl
        refine take_ (i := 3) (N := some 171) (v := ?_) (a' := ?_) #[true, true, true, true, false, false, false, false, false, false, false, false, false, false, false, false, false, false, false] rfl rfl (take_ofW HT_.out HW_.out (by kernel_rfl)) (fun _ _ _ h => h) (Or.inl ⟨by rfl, ?_⟩) hHeld ?_ ?_
        rotate_left
        · rintro w' ⟨s0, s1, s2⟩
          go_simp
          with_reducible rfl
        rotate_left
        · simp only [Act.put, List.setIfInBounds_toArray, List.set_cons_zero, List.set_cons_succ]
          rfl
        refine take_ (i := 4) (N := some 172) (v := ?_) (a' := ?_) #[true, true, true, true, true, false, false, false, false, false, false, false, false, false, false, false, false, false, false] rfl rfl (take_ofW HT_.out HW_.out (by kernel_rfl)) (fun _ _ _ h => h) (Or.inl ⟨by rfl, ?_⟩) hHeld ?_ ?_
        rotate_left
        · rintro w' ⟨s0, s1, s2⟩
          go_simp
          with_reducible rfl
        rotate_left
        · simp only [Act.put, List.setIfInBounds_toArray, List.set_cons_zero, List.set_cons_succ]
          rfl
        refine take_ (i := 5) (N := some 173) (v := ?_) (a' := ?_) #[true, true, true, true, true, true, false, false, false, false, false, false, false, false, false, false, false, false, false] rfl rfl (take_ofW HT_.out HW_.out (by kernel_rfl)) (fun _ _ _ h => h) (Or.inl ⟨by rfl, ?_⟩) hHeld ?_ ?_
        rotate_left
        · rintro w' ⟨s0, s1, s2⟩
          go_simp
          with_reducible rfl
        rotate_left
        · simp only [Act.put, List.setIfInBounds_toArray, List.set_cons_zero, List.set_cons_succ]
          rfl
        refine take_ (i := 6) (N := some 174) (v := ?_) (a' := ?_) #[true, true, true, true, true, true, true, false, false, false, false, false, false, false, false, false, false, false, false] rfl rfl (take_ofW HT_.out HW_.out (by kernel_rfl)) (fun _ _ _ h => h) (Or.inl ⟨by rfl, ?_⟩) hHeld ?_ ?_
        rotate_left
        · rintro w' ⟨s0, s1, s2⟩
          go_simp
          with_reducible rfl
        rotate_left
        · simp only [Act.put, List.setIfInBounds_toArray, List.set_cons_zero, List.set_cons_succ]
          rfl
        refine take_ (i := 7) (N := some 175) (v := ?_) (a' := ?_) #[true, true, true, true, true, true, true, true, false, false, false, false, false, false, false, false, false, false, false] rfl rfl (take_ofW HT_.out HW_.out (by kernel_rfl)) (fun _ _ _ h => h) (Or.inl ⟨by rfl, ?_⟩) hHeld ?_ ?_
        rotate_left
        · rintro w' ⟨s0, s1, s2⟩
          go_simp
          with_reducible rfl
        rotate_left
        · simp only [Act.put, List.setIfInBounds_toArray, List.set_cons_zero, List.set_cons_succ]
          rfl
        refine take_ (i := 8) (N := some 176) (v := ?_) (a' := ?_) #[true, true, true, true, true, true, true, true, true, false, false, false, false, false, false, false, false, false, false] rfl rfl (take_ofW HT_.out HW_.out (by kernel_rfl)) (fun _ _ _ h => h) (Or.inl ⟨by rfl, ?_⟩) hHeld ?_ ?_
        rotate_left
        · rintro w' ⟨s0, s1, s2⟩
          go_simp
          with_reducible rfl
        rotate_left
        · simp only [Act.put, List.setIfInBounds_toArray, List.set_cons_zero, List.set_cons_succ]
          rfl
        refine take_ (i := 9) (N := some 177) (v := ?_) (a' := ?_) #[true, true, true, true, true, true, true, true, true, true, false, false, false, false, false, false, false, false, false] rfl rfl (take_ofW HT_.out HW_.out (by kernel_rfl)) (fun _ _ _ h => h) (Or.inl ⟨by rfl, ?_⟩) hHeld ?_ ?_
        rotate_left
        · rintro w' ⟨s0, s1, s2⟩
          go_simp
          with_reducible rfl
        rotate_left
        · simp only [Act.put, List.setIfInBounds_toArray, List.set_cons_zero, List.set_cons_succ]
          rfl
        refine take_ (i := 10) (N := some 178) (v := ?_) (a' := ?_) #[true, true, true, true, true, true, true, true, true, true, true, false, false, false, false, false, false, false, false] rfl rfl (take_ofW HT_.out HW_.out (by kernel_rfl)) (fun _ _ _ h => h) (Or.inl ⟨by rfl, ?_⟩) hHeld ?_ ?_
        rotate_left
        · rintro w' ⟨s0, s1, s2⟩
          go_simp
          with_reducible rfl
        rotate_left
        · simp only [Act.put, List.setIfInBounds_toArray, List.set_cons_zero, List.set_cons_succ]
          rfl
        refine take_ (i := 11) (N := some 179) (v := ?_) (a' := ?_) #[true, true, true, true, true, true, true, true, true, true, true, true, false, false, false, false, false, false, false] rfl rfl (take_ofW HT_.out HW_.out (by kernel_rfl)) (fun _ _ _ h => h) (Or.inl ⟨by rfl, ?_⟩) hHeld ?_ ?_
        rotate_left
        · rintro w' ⟨s0, s1, s2⟩
          go_simp
          with_reducible rfl
        rotate_left
        · simp only [Act.put, List.setIfInBounds_toArray, List.set_cons_zero, List.set_cons_succ]
          rfl
        refine take_ (i := 12) (N := some 180) (v := ?_) (a' := ?_) #[true, true, true, true, true, true, true, true, true, true, true, true, true, false, false, false, false, false, false] rfl rfl (take_ofW HT_.out HW_.out (by kernel_rfl)) (fun _ _ _ h => h) (Or.inl ⟨by rfl, ?_⟩) hHeld ?_ ?_
        rotate_left
        · rintro w' ⟨s0, s1, s2⟩
          go_simp
          with_reducible rfl
        rotate_left
        · simp only [Act.put, List.setIfInBounds_toArray, List.set_cons_zero, List.set_cons_succ]
          rfl
        refine take_ (i := 13) (N := some 181) (v := ?_) (a' := ?_) #[true, true, true, true, true, true, true, true, true, true, true, true, true, true, false, false, false, false, false] rfl rfl (take_ofW HT_.out HW_.out (by kernel_rfl)) (fun _ _ _ h => h) (Or.inl ⟨by rfl, ?_⟩) hHeld ?_ ?_
        rotate_left
        · rintro w' ⟨s0, s1, s2⟩
          go_simp
          with_reducible rfl
        rotate_left
        · simp only [Act.put, List.setIfInBounds_toArray, List.set_cons_zero, List.set_cons_succ]
          rfl
        refine take_ (i := 14) (N := some 182) (v := ?_) (a' := ?_) #[true, true, true, true, true, true, true, true, true, true, true, true, true, true, true, false, false, false, false] rfl rfl (take_ofW HT_.out HW_.out (by kernel_rfl)) (fun _ _ _ h => h) (Or.inl ⟨by rfl, ?_⟩) hHeld ?_ ?_
        rotate_left
        · rintro w' ⟨s0, s1, s2⟩
          go_simp
          with_reducible rfl
        rotate_left
        · simp only [Act.put, List.setIfInBounds_toArray, List.set_cons_zero, List.set_cons_succ]
          rfl
        refine one_ (i := 15) (N := some 183) #[true, true, true, true, true, true, true, true, true, true, true, true, true, true, true, true, false, false, false] rfl rfl (one_of HT_.out (by kernel_rfl)) (by decide) (fun K hK => ?_)
        refine value_ (w1 := ?_) (v := ?_) (by rfl) rfl ?_ ?_
        rotate_left 2
        · go_simp
          constructor
          · rfl
          · rfl
        refine hK.out _ _ ⟨pw_cell_below (below_alloc (Below.refl _ _) _) hHeld.1, pw_cell_below (below_alloc (Below.refl _ _) _) hHeld.2.1, pw_cell_below (below_alloc (Below.refl _ _) _) hHeld.2.2⟩ (fun hHeld => ?_)
        clear hK K
        refine norm_ (a' := ?_) ?_ ?_
        rotate_left
        · show Act.put _ (some 183) _ = _
          simp only [Act.put, List.setIfInBounds_toArray, List.set_cons_zero, List.set_cons_succ]
          rfl
        refine one_ (i := 16) (N := some 184) #[true, true, true, true, true, true, true, true, true, true, true, true, true, true, true, true, true, false, false] rfl rfl (one_of HT_.out (by kernel_rfl)) (by decide) (fun K hK => ?_)
        refine Kd.R_append_step kA1 (w0 := w) (W := w8.drew) w.heap.size (by rfl) (.tmp 181) (.tmp 183) 66 69 (.slice none 0 0) 24 rfl Tryz.underlying66 Q.info69 rfl (show 0 < 1 by decide) (by decide) (.slice A4 len c4) ((M.getD qn []).getD fn []) ys [.slice A3 ys.length c3] (fun k => w.heap.size + 2 ≤ k) (fun k => w7.heap.size ≤ k) (by rfl) (by rfl) ⟨_, rfl, HRZA.out⟩ (fun k hk => ⟨by have := (H78.out).1; show w.heap.size + 2 ≤ k; omega, fun e => by have := HUB2.out k e.symm; have hk' : w7.heap.size ≤ k := hk; omega⟩) (fun k hk => by have := H78.out; have hk' : w8.heap.size ≤ k := hk; show w.heap.size + 2 ≤ k; omega) HALT.out (HGA.out).g.hb (HGA.out).g.hb.size (by rw [HLL.out]; have := HLM.out; omega) ?_
        intro v5 w5 ho5 hb5 hg5 hat5
        have HM9 := Aside0.mk (HMAdd.out v5 w5 ho5 hg5 hat5)
        obtain ⟨A5, c5, e5⟩ := Kd.R_slice ho5
        rw [← HLEN.out] at e5
        subst e5
        have HG9 := Aside0.mk ((HGA.out).app HALT.out (by decide) hb5 hg5)
        have HR9 := Aside0.mk (R_grown9 HRA.out HALT.out (by decide) (fun _ h => by cases h) hg5)
        have hneA : some ab ≠ (Value.slice A4 len c4).ownBlock := (fun hh => by obtain ⟨⟨cc, hcc⟩, _⟩ := ownBlock_typed HALT.out hh.symm; exact types_ne HABD.out hcc (by decide) rfl)
        have hneG : some g ≠ (Value.slice A4 len c4).ownBlock := (fun hh => by obtain ⟨⟨cc, hcc⟩, _⟩ := ownBlock_typed HALT.out hh.symm; exact types_ne HGBD.out hcc (by decide) rfl)
        have nr := Go.Proofs.YtbmcigakiibncaaGreatDoorW.PrintWords.cell_grown hg5 HRD.out hneA
        have nc := Go.Proofs.YtbmcigakiibncaaGreatDoorW.PrintWords.cell_grown hg5 HCD.out hneG
        have HGB9 := Aside0.mk (blk_grown HGBD.out hg5 hneG)
        have nf := blk_frozen HGB9.out fn
        obtain ⟨n0, n1, n2, n3⟩ := (HG9.out).g.cells
        clear hneA hneG ho5 hb5 hg5 hat5 n0 n1 n3
        refine hK.out _ _ ⟨n2, nr, nc⟩ (fun hHeld => ?_)
        clear hK K
        refine norm_ (a' := ?_) ?_ ?_
        rotate_left
        · show Act.put _ (some 184) _ = _
          simp only [Act.put, List.setIfInBounds_toArray, List.set_cons_zero, List.set_cons_succ]
          rfl
        refine take_ (i := 17) (N := some 185) (v := ?_) (a' := ?_) #[true, true, true, true, true, true, true, true, true, true, true, true, true, true, true, true, true, true, false] rfl rfl (take_ofW HT_.out HW_.out (by kernel_rfl)) (fun _ _ _ h => h) (Or.inl ⟨by rfl, ?_⟩) hHeld ?_ ?_
        rotate_left
        · rintro w' ⟨s0, s1, s2⟩
          go_simp
          with_reducible rfl
        rotate_left
        · simp only [Act.put, List.setIfInBounds_toArray, List.set_cons_zero, List.set_cons_succ]
          rfl
        refine last_ (i := 18) (N := none) #[true, true, true, true, true, true, true, true, true, true, true, true, true, true, true, true, true, true, true] rfl rfl (one_of HT_.out (by kernel_rfl)) (by decide) (fun K hK => ?_)
        refine skip_ (w1 := ?_) (by rfl) rfl ?_ ?_
        rotate_left
        · go_simp
          rfl
        refine hK.out _ _ ?_
        clear hK K
        refine done_ (done_of HT_.out (by kernel_rfl)) ?_
        refine NoPanic.normal ?_
        clear n2 nr nc nf hHeld
        go_wp2
        go_roundg (n - (k + 1))
        case measure => have := HLT.out; omega
        case rel => exact ⟨k + 1, qm + fn, addAlt M qn fn ys, gs, _, HLT.out, Nat.le_refl _, by rw [HKZ.out], rfl, ⟨(HG9.out).far HGBB.out HBLG.out _⟩, ⟨R_other HR9.out g (fun x => by obtain ⟨⟨cc, hcc⟩, _⟩ := ownBlock_typed HR9.out x; exact types_ne hcc HGB9.out (by decide) rfl) (fun _ h => by cases h) (fun kk hkk _ => Below.heap_setCell _ _ _ kk hkk)⟩, HM9, ⟨by rw [addAlt_len]; exact HML.out⟩, HSTEP2, HLA2, HCN2⟩
      · have hqM : ¬ qn < M.length := by rw [HML.out]; exact hqN
        have HSTEP2 := Aside0.mk (show getV t = (gstep states wd.length (((L.drop 2).take n).drop (k + 1)) (qm + fn) M).map fun M => (wd.map valW, st, M) by rw [HSTEP.out, if_neg (by omega)])
        clear hqM
        go_wp2
        go_roundg (n - (k + 1))
        case measure => have := HLT.out; omega
        case rel => exact ⟨k + 1, qm + fn, M, gs, uu, HLT.out, Nat.le_refl _, by rw [HKZ.out], rfl, HG8, HR8, HM8, HML, HSTEP2, HLA2, ⟨fun a b => Nat.le_succ_of_le (HCN.out a b)⟩⟩
    · obtain rfl : k = n := by omega
      have HVV := Aside0.mk (show getV t = some (wd.map valW, st, M) by rw [HV.out, List.drop_eq_nil_of_le (by rw [List.length_take]; omega)]; rfl)
      clear HV hk hgg hlt
      go_wp2
      exact hK.out _ _ _ _ _ _ _ _ _ _ _ _ _ _ _ _ _ _ _ _ _ _ _ _ _ _ _ _ _ _ _ _ _ _ _ _ _ _ _ _ _ _ _ _ _ _ _ _ _ _ _ _ _ _ _ _ _ _ _ _ _ _ _ _ _ _ _ _ _ _ _ _ _ _ _ _ _ _ _ _ _ _ _ _ _ _ _ _ _ _ _ _ _ _ _ _ M gs uu HG.out HR.out HMM.out HML.out HVV.out
end Go.Proofs.YtbmcigakiibncaaGreatDoor.H
namespace Go.Proofs.YtbmcigakiibncaaGreatDoor.H
open Go.RowKit Go.Proofs.YtbmcigakiibncaaGreatDoorW.PrintWords Go.Proofs.YtbmcigakiibncaaGreatDoorW.PrintLast Go.Proofs.YtbmcigakiibncaaGreatDoorW.PrintMore
set_option linter.unusedVariables false
set_option linter.unusedSimpArgs false
set_option maxHeartbeats 8000000 in
set_option maxRecDepth 100000 in
theorem get_calls (t : ByteArray) (w : World) (hm : MX w) :
    Calls Tryz.prog 26 #[.string t] w (GetE t w) := by
  have hmf := run_mkfun9
  have HM := Aside0.mk hm
  have HG := Aside0.mk (GH.start w)
  clear hm
  go_enter_defers Tryz.func26, Tryz.ntmps26
  go_upto_region 1 with (fail)
  generalize ((w.alloc (.cells #[.slice none 0 0, .int .i64 0, .slice none 0 0] 25)).alloc (.cells #[.int .i64 0] 29)) = W1 at *
  cases q1 : decide ((t.size : Int) > 65536) with
  | true =>
    obtain ⟨c0, c1, c2, c3⟩ := (HG.out).cells
    obtain ⟨f0, f1, f2, f3⟩ := (HG.out).frozen
    have HR := Aside0.mk (show getR t = (3, [], 0, []) by unfold getR; rw [if_pos (by have := of_decide_eq_true q1; omega)])
    have HQ := Aside0.mk ((((HG.out).set0 (.slice none 0 0)).set1 (.int .i64 0)).set2 (.slice none 0 0))
    go_wp2
    exact get_ret0 HR.out ((HQ.out).hb.setCell (p := ⟨w.heap.size + 1, 0, none⟩) (Nat.le_succ _) _) (blk_far (HQ.out).ha (by show w.heap.size ≠ w.heap.size + 1; omega) _) (blk_set (HQ.out).he 0 _) _ rfl rfl
  | false =>
  have hsz : t.size ≤ 65536 := by have := of_decide_eq_false q1; omega
  have HSZ := Aside0.mk hsz
  have HSP := Aside0.mk (split_calls t 10 W1 (by omega) ((HM.out).below (HG.out).hb))
  clear q1
  go_wp2_with fail
  refine (HSP.out).mono ?_
  rintro E w2 ⟨rfl, hw⟩
  have hb := below_alloc (Below.refl W1.heap.size W1) (.cells ((chunks t 10).map Value.string).toArray 9)
  have hbn := blk_new W1 (.cells ((chunks t 10).map Value.string).toArray 9)
  rw [← hw] at hb hbn
  have HG2 := Aside0.mk (GL.mk ((HG.out).below hb) hbn (by have := blk_lt (HG.out).he; omega))
  have HLS := Aside0.mk (show (chunks t 10).length ≤ 65537 from by have := chunks_short t 10; omega)
  have HV1 := Aside0.mk (fun h => getV_short (t := t) h)
  have HV2 := Aside0.mk (fun h => getV_end (t := t) h)
  have HV3 := Aside0.mk (fun h => getV_first (t := t) h)
  have HV4 := Aside0.mk (fun i hi h => getV_rank (t := t) (i := i) hi h)
  have HV5 := Aside0.mk (fun h => getV_second (t := t) h)
  have HV6 := Aside0.mk (fun h => getV_sec (t := t) h)
  have HCS := Aside0.mk (fun i => chunk_size t 10 i)
  clear hw hb hbn HG HSP
  generalize hLL : chunks t 10 = L at *
  generalize W1.heap.size = bl at *
  cases q2 : decide ((L.length : Int) < 3) with
  | true =>
    have HN := Aside0.mk (HV1.out (by have := of_decide_eq_true q2; omega))
    go_wp2
    exact get_panic (getR_bad HSZ.out HN.out) (HG2.out).g _ rfl rfl
  | false =>
  have hl3 : 3 ≤ L.length := by have := of_decide_eq_false q2; omega
  have HL3 := Aside0.mk hl3
  have hk := strs_cell (HG2.out).l (show L.length - 1 < L.length by omega)
  have hk0 := strs_cell (HG2.out).l (show 0 < L.length by omega)
  have HLE := Aside0.mk (HV2.out)
  clear HV2
  generalize hle : L.getD (L.length - 1) ByteArray.empty = le at *
  have HLEE := Aside0.mk hle
  generalize hs0 : L.getD 0 ByteArray.empty = s0 at *
  have HS0 := Aside0.mk hs0
  have HS0Z := Aside0.mk (show s0.size ≤ t.size by rw [← hs0]; exact HCS.out 0)
  clear hle hs0
  have hz2 : IntKind.i64.wrap ((L.length : Int) - 1) = (L.length : Int) - 1 := by have := HLS.out; simp [IntKind.wrap, IntKind.bits, IntKind.signed]; omega
  cases q3 : le.toList.isEmpty with
  | false =>
    have HN := Aside0.mk (HLE.out (fun e => by rw [e, Lib.toList_data] at q3; revert q3; decide))
    go_wp2
    exact get_panic (getR_bad HSZ.out HN.out) (HG2.out).g _ rfl rfl
  | true =>
    have HWO := Aside0.mk (wordsB_calls s0 sRanks w2 (by have := HS0Z.out; omega) ((HM.out).below (HG2.out).g.hb))
    go_wp2_with fail
    refine (HWO.out).mono ?_
    rintro E w3 ⟨hb, ⟨hne, rfl⟩ | ⟨hhd, o, rfl, ho, hws⟩⟩
    · have HN := Aside0.mk (HV3.out hne)
      have HG3 := Aside0.mk ((HG2.out).below hb)
      unfold pbad
      go_wp2
      exact get_panic (getR_bad HSZ.out HN.out) (HG3.out).g _ rfl rfl
    · have HG3 := Aside0.mk ((HG2.out).below hb)
      have HWS := Aside0.mk hws
      have HO := Aside0.mk ho
      have HHD := Aside0.mk hhd
      have HBW := Aside0.mk (show w.heap.size + 2 ≤ w2.heap.size from by have := blk_lt (HG2.out).l; have := (HG2.out).hbl; omega)
      have HLEM := Aside0.mk (show le = ByteArray.empty from string_inj (by rw [Lib.toList_data, Lib.toList_data]; rw [Lib.toList_data] at q3; rw [List.isEmpty_iff.1 q3]; rfl))
      clear hb hws ho hhd hk hk0 hz2 HG2 HWO q2 q3
      generalize w2.heap.size = bw at *
      generalize hws0 : chunks s0 32 = ws at *
      generalize hwd : ws.drop 1 = wd at *
      have HWZ := Aside0.mk (show ∀ i, (wd.getD i ByteArray.empty).size ≤ s0.size from fun i => by
        have h1 := chunk_size s0 32 (1 + i)
        rw [hws0] at h1
        rw [← hwd]
        rw [show (ws.drop 1).getD i ByteArray.empty = ws.getD (1 + i) ByteArray.empty by simp [List.getD_eq_getElem?_getD, List.getElem?_drop, Nat.add_comm]]
        exact h1)
      have HWD := Aside0.mk hwd
      have HWS0 := Aside0.mk hws0
      have HWL := Aside0.mk (show wd.length ≤ 65536 from by
        have h1 := chunks_short s0 32
        rw [hws0] at h1
        rw [← hwd, List.length_drop]
        have := HS0Z.out; have := HSZ.out
        omega)
      clear hwd hws0
      go_wp2
      go_loopg [47] wd.length (fun gg v47 wi => ∃ (i : Nat) (A : Option Addr) (c : Nat), i ≤ wd.length ∧ wd.length - i ≤ gg ∧ v47 = .int .i64 i ∧ Aside0 (GL w wi (.slice A i c) (.int .i64 0) (.slice none 0 0) bl L) ∧ Aside0 (wi.heap[bw]? = some (.cells (ws.map Value.string).toArray 9 (0, 0))) ∧ Aside0 (Kd.R (Kd.int .i64) 3 wi w.heap.size (fun k => w.heap.size + 2 ≤ k) (.slice A i c) ((wd.take i).map valW)) ∧ Aside0 (∀ j, j < i → okW (wd.getD j ByteArray.empty) = true))
      case atStart => exact ⟨0, none, 0, Nat.zero_le _, Nat.le_refl _, rfl, HG3, HWS, ⟨Kd.R_nil _ _ _ _ _⟩, ⟨fun j hj => absurd hj (Nat.not_lt_zero _)⟩⟩
      case round =>
        clear HG3 HWS
        obtain ⟨i, A, c, hi, hgg, rfl, HG4, HWB, HR, HOK⟩ := hrel
        by_cases hlt : i < wd.length
        · have hltz : (i : Int) < (wd.length : Int) := by omega
          have hk := words_cell (HWB.out) (show i < (ws.drop 1).length by rw [HWD.out]; exact hlt) (by rw [HWD.out]; exact HO.out)
          rw [HWD.out] at hk
          have HS1Z := Aside0.mk (HWZ.out i)
          have HS1B := Aside0.mk (HV4.out i)
          generalize hs1 : wd.getD i ByteArray.empty = s1 at *
          have HS1 := Aside0.mk hs1
          clear hs1
          go_upto_region 10 with (fail)
          clear hk
          have HN := Aside0.mk (number_calls s1 wr.drew (by have := HS1Z.out; have := HS0Z.out; have := HSZ.out; omega))
          obtain ⟨k0, k1, k2, k3⟩ := (HG4.out).g.cells
          cases q4 : okW s1 with
          | false =>
            have HX := Aside0.mk (HS1B.out hlt q4)
            have HNE := Aside0.mk (show numE s1.data.toList = pbad by unfold numE; rw [show numOk s1.data.toList = false from q4]; rfl)
            rw [HNE.out] at HN
            have HPX := Aside0.mk (fun w4 (hb : Below wr.drew.heap.size wr.drew w4) => (HG4.out).below (below_then (below_drew (Below.refl wr.heap.size wr)) (below_drew (Below.refl wr.heap.size wr)).size hb))
            refine wp_region_any (by kernel_rfl) ?_
            change wpAny _ _ _ _ _ _ _ (World.drew _)
            refine wpAny_ready (rs := [0, 2]) (by kernel_rfl) (by simp) ?_
            refine AllReady.cons rfl (fun K hK => ?_) ?_
            · go_simp
              refine hK _ _ ?_
              clear hK K
              refine wpAny_ready (rs := [1, 2]) (by kernel_rfl) (by simp) ?_
              refine AllReady.cons rfl (fun K hK => ?_) ?_
              · go_simp
                refine hK _ _ ?_
                clear hK K
                refine wpAny_ready (rs := [2]) (by kernel_rfl) (by simp) ?_
                refine AllReady.cons rfl (fun K hK => ?_) ?_
                · go_simp
                  refine hK _ _ ?_
                  clear hK K
                  refine wpAny_ready (rs := [3]) (by kernel_rfl) (by simp) ?_
                  refine AllReady.cons rfl (fun K hK => ?_) ?_
                  · go_simp
                    go_wp2_with (go_at_call 61; refine (HN.out).mono ?_; rintro E w4 ⟨rfl, hb⟩; exact get_panic (getR_bad HSZ.out HX.out) ((HPX.out) _ hb).g _ rfl rfl)
                  exact AllReady.nil
                exact AllReady.nil
              refine AllReady.cons rfl (fun K hK => ?_) ?_
              · go_simp
                refine hK _ _ ?_
                clear hK K
                refine wpAny_ready (rs := [1, 3]) (by kernel_rfl) (by simp) ?_
                refine AllReady.cons rfl (fun K hK => ?_) ?_
                · go_simp
                  refine hK _ _ ?_
                  clear hK K
                  refine wpAny_ready (rs := [3]) (by kernel_rfl) (by simp) ?_
                  refine AllReady.cons rfl (fun K hK => ?_) ?_
                  · go_simp
                    go_wp2_with (go_at_call 61; refine (HN.out).mono ?_; rintro E w4 ⟨rfl, hb⟩; exact get_panic (getR_bad HSZ.out HX.out) ((HPX.out) _ hb).g _ rfl rfl)
                  exact AllReady.nil
                refine AllReady.cons rfl (fun K hK => ?_) ?_
                · go_simp
                  go_wp2_with (go_at_call 61; refine (HN.out).mono ?_; rintro E w4 ⟨rfl, hb⟩; exact get_panic (getR_bad HSZ.out HX.out) ((HPX.out) _ hb).g _ rfl rfl)
                exact AllReady.nil
              exact AllReady.nil
            refine AllReady.cons rfl (fun K hK => ?_) ?_
            · go_simp
              refine hK _ _ ?_
              clear hK K
              refine wpAny_ready (rs := [0, 3]) (by kernel_rfl) (by simp) ?_
              refine AllReady.cons rfl (fun K hK => ?_) ?_
              · go_simp
                refine hK _ _ ?_
                clear hK K
                refine wpAny_ready (rs := [1, 3]) (by kernel_rfl) (by simp) ?_
                refine AllReady.cons rfl (fun K hK => ?_) ?_
                · go_simp
                  refine hK _ _ ?_
                  clear hK K
                  refine wpAny_ready (rs := [3]) (by kernel_rfl) (by simp) ?_
                  refine AllReady.cons rfl (fun K hK => ?_) ?_
                  · go_simp
                    go_wp2_with (go_at_call 61; refine (HN.out).mono ?_; rintro E w4 ⟨rfl, hb⟩; exact get_panic (getR_bad HSZ.out HX.out) ((HPX.out) _ hb).g _ rfl rfl)
                  exact AllReady.nil
                refine AllReady.cons rfl (fun K hK => ?_) ?_
                · go_simp
                  go_wp2_with (go_at_call 61; refine (HN.out).mono ?_; rintro E w4 ⟨rfl, hb⟩; exact get_panic (getR_bad HSZ.out HX.out) ((HPX.out) _ hb).g _ rfl rfl)
                exact AllReady.nil
              refine AllReady.cons rfl (fun K hK => ?_) ?_
              · go_simp
                go_wp2_with (go_at_call 61; refine (HN.out).mono ?_; rintro E w4 ⟨rfl, hb⟩; exact get_panic (getR_bad HSZ.out HX.out) ((HPX.out) _ hb).g _ rfl rfl)
              exact AllReady.nil
            exact AllReady.nil
          | true =>
            have HQ4 := Aside0.mk q4
            refine wp_region_noPanic ?_
            have HN2 := Aside0.mk (show numE s1.data.toList = .returned (.int .i64 (valW s1)) by unfold numE; rw [show numOk s1.data.toList = true from q4]; rfl)
            rw [HN2.out] at HN
            have HPX := Aside0.mk (fun w4 (hb : Below wr.drew.heap.size wr.drew w4) => below_then (below_drew (Below.refl wr.heap.size wr)) (below_drew (Below.refl wr.heap.size wr)).size hb)
            have HLT := Aside0.mk hlt
            have hlen : (((wd.take i).map valW).length + 1) * 8 ≤ 140737488355328 := by rw [List.length_map, List.length_take]; have := HWL.out; omega
            have HLEN := Aside0.mk (show ((wd.take i).map valW).length = i by rw [List.length_map, List.length_take]; omega)
            have HTK := Aside0.mk (show (wd.take i).map valW ++ [valW s1] = (wd.take (i + 1)).map valW by
              rw [List.take_add_one, List.map_append]
              congr 1
              have e : wd[i]? = some s1 := by rw [← HS1.out]; simp [List.getD_eq_getElem?_getD, hlt]
              rw [e]; rfl)
            have HLE1 := Aside0.mk (show ((wd.take (i + 1)).map valW).length = i + 1 by rw [List.length_map, List.length_take]; omega)
            go_region_law (first
              | (go_simp; go_at_call 61; refine (HN.out).mono ?_; rintro E w4 ⟨rfl, hb⟩; have HB4 := Aside0.mk ((HPX.out) w4 hb); clear hb; have HG5 := Aside0.mk ((HG4.out).below HB4.out); have HR5 := Aside0.mk (Kd.R_below HR.out HB4.out); have HWB5 := Aside0.mk (blk_below HWB.out HB4.out); obtain ⟨m0, m1, m2, m3⟩ := (HG5.out).g.cells; have l0 := pw_cell_below (below_alloc (Below.refl w4.heap.size w4) (.cells #[.int .i64 (valW s1)] 3)) m0)
              | (refine Kd.R_append_step (Kd.int .i64) (w0 := w) (W := w4) w.heap.size (by simp [Region.wanted]) (.tmp 52) (.tmp 55) 22 3 (.int .i64 0) 8 rfl Tryz.underlying22 Q.info3 rfl (by decide) (by omega) (.slice A i c) ((wd.take i).map valW) (valW s1) [.int .i64 (valW s1)] (fun k => w.heap.size + 2 ≤ k) (fun _ => False) (by rfl) (by rfl) rfl (fun _ hk => hk.elim) (fun k hk => by have := blk_lt (HG5.out).l; have := (HG5.out).hbl; omega) HR5.out (HG5.out).g.hb (HG5.out).g.hb.size hlen ?_; intro v5 w5 ho5 hb5 hg5 hat5; rw [HTK.out] at ho5; (obtain ⟨A5, c5, e5⟩ := Kd.R_slice ho5); rw [HLE1.out] at e5; subst e5; have HR6 := Aside0.mk ho5; have HG6 := Aside0.mk ((HG5.out).app HR5.out (by decide) hb5 hg5); have HWB6 := Aside0.mk (blk_grown HWB5.out hg5 (fun hk => by obtain ⟨⟨cc, hcc⟩, _⟩ := ownBlock_typed HR5.out hk.symm; exact types_ne hcc HWB5.out (by decide) rfl)); clear ho5 hb5 hg5 hat5; obtain ⟨n0, n1, n2, n3⟩ := (HG6.out).g.cells; obtain ⟨g0, g1, g2, g3⟩ := (HG6.out).g.frozen)
              | fail)
            all_goals
              refine NoPanic.normal ?_
              go_wp2
              go_roundg (wd.length - (i + 1))
              case measure => have := HLT.out; omega
              case rel => exact ⟨i + 1, A5, c5, HLT.out, Nat.le_refl _, by rw [wr_id (x := (i : Int) + 1) (by omega) (by have := HLT.out; have := HWL.out; omega)]; rfl, ⟨(HG6.out).set0 _⟩, ⟨blk_far HWB6.out (by have := HBW.out; show bw ≠ w.heap.size; omega) _⟩, ⟨Kd.R_far HR6.out (p := ⟨w.heap.size, 0, none⟩) (fun k hk he => by have h0 : k = w.heap.size := he; omega) _⟩, ⟨fun j hj => by
                by_cases e : j = i
                · rw [e, HS1.out]; exact HQ4.out
                · exact HOK.out j (by omega)⟩⟩
        · obtain rfl : i = wd.length := by omega
          have HALL := Aside0.mk (show wd.all okW = true from List.all_eq_true.2 fun x hx => by
            obtain ⟨j, hj, hjx⟩ := List.mem_iff_getElem.1 hx
            have h1 := HOK.out j hj
            rw [List.getD_eq_getElem?_getD, List.getElem?_eq_getElem hj, hjx] at h1
            exact h1)
          rw [List.take_length] at HR
          clear hi hgg hlt HOK HWB HV4 HWZ
          have HN12 := Aside0.mk (Nat.lt_of_lt_of_le (show 1 < 3 by decide) HL3.out)
          have hk := strs_cell (HG4.out).l HN12.out
          have HS1Z := Aside0.mk (HCS.out 1)
          generalize hs1 : L.getD 1 ByteArray.empty = s1 at *
          have HS1 := Aside0.mk hs1
          have HWO := Aside0.mk (wordsB_calls s1 sStates wr (by have := HS1Z.out; have := HSZ.out; omega) ((HM.out).below (HG4.out).g.hb))
          clear hs1
          go_wp2_with fail
          refine (HWO.out).mono ?_
          rintro E w4 ⟨hb, ⟨hne, rfl⟩ | ⟨hhd, o2, rfl, ho, hws⟩⟩
          · have HN := Aside0.mk (HV5.out hne)
            have HG5 := Aside0.mk ((HG4.out).below hb)
            unfold pbad
            go_wp2
            exact get_panic (getR_bad HSZ.out HN.out) (HG5.out).g _ rfl rfl
          · have HG5 := Aside0.mk ((HG4.out).below hb)
            have HR5 := Aside0.mk (Kd.R_below HR.out hb)
            have HWS2 := Aside0.mk hws
            have HO2 := Aside0.mk ho
            have HHD2 := Aside0.mk hhd
            have HBW2 := Aside0.mk (show w.heap.size + 2 ≤ wr.heap.size from by have := blk_lt (HG4.out).l; have := (HG4.out).hbl; omega)
            have HWZ2 := Aside0.mk (show ∀ i, ((chunks s1 32).getD i ByteArray.empty).size ≤ 65536 from fun i => by have := chunk_size s1 32 i; have := HS1Z.out; have := HSZ.out; omega)
            clear hb hws ho hhd hk HG4 HR HWO HN12
            generalize wr.heap.size = bw2 at *
            generalize hws0 : chunks s1 32 = ws2 at *
            have HWS20 := Aside0.mk hws0
            clear hws0
            by_cases h3 : (ws2.drop 1).length = 3
            · obtain ⟨p, x1, x2, x3, rfl⟩ : ∃ p x1 x2 x3, ws2 = [p, x1, x2, x3] := by
                rw [List.length_drop] at h3
                match ws2, h3 with
                | [p, x1, x2, x3], _ => exact ⟨p, x1, x2, x3, rfl⟩
              obtain rfl : o2 = 1 := by have := HO2.out; simp at this; exact this
              have z1 : w4.cell? ⟨bw2, 1, none⟩ = some (.string x1) := (blk_cell HWS2.out 1).trans rfl
              have z2 : w4.cell? ⟨bw2, 2, none⟩ = some (.string x2) := (blk_cell HWS2.out 2).trans rfl
              have z3 : w4.cell? ⟨bw2, 3, none⟩ = some (.string x3) := (blk_cell HWS2.out 3).trans rfl
              have HX1Z := Aside0.mk (HWZ2.out 1)
              have HX3Z := Aside0.mk (HWZ2.out 3)
              have HSEC := Aside0.mk (show (secOk [x1, x2, x3] = false → getV t = none) from HV6.out)
              have HCE := Aside0.mk (show ∀ b : Bool, (x2.toList == [115, 116, 97, 114, 116]) = b → decide (x2 = sStart) = b from fun b hb => by
                have e : sStart.toList = [115, 116, 97, 114, 116] := by rw [Lib.toList_data]; rfl
                cases b with
                | true => exact decide_eq_true (string_inj (by rw [e]; exact hb))
                | false => exact decide_eq_false (string_ne (by rw [e]; exact hb)))
              cases q5 : (x2.toList == [115, 116, 97, 114, 116]) with
              | false =>
                have HN := Aside0.mk (HSEC.out (by show (decide (x2 = sStart) && okW x1 && okW x3) = false; rw [HCE.out _ q5]; rfl))
                go_wp2
                exact get_panic (getR_bad HSZ.out HN.out) (HG5.out).g _ rfl rfl
              | true =>
                have HX2 := Aside0.mk (HCE.out _ q5)
                have HN1 := Aside0.mk (number_calls x1 w4 (by have : x1.size ≤ 65536 := HX1Z.out; omega))
                go_wp2_with fail
                refine (HN1.out).mono ?_
                rintro E w5 ⟨rfl, hb⟩
                have HG6 := Aside0.mk ((HG5.out).below hb)
                have HR6 := Aside0.mk (Kd.R_below HR5.out hb)
                have HWS6 := Aside0.mk (blk_below HWS2.out hb)
                clear hb HG5 HR5 HWS2 z1 z2 z3 HN1 q5
                cases q6 : okW x1 with
                | false =>
                  have HN := Aside0.mk (HSEC.out (by show (decide (x2 = sStart) && okW x1 && okW x3) = false; rw [q6, HX2.out]; rfl))
                  rw [show numE x1.data.toList = pbad by unfold numE; rw [show numOk x1.data.toList = false from q6]; rfl]
                  unfold pbad
                  go_wp2
                  exact get_panic (getR_bad HSZ.out HN.out) (HG6.out).g _ rfl rfl
                | true =>
                rw [show numE x1.data.toList = .returned (.int .i64 (valW x1)) by unfold numE; rw [show numOk x1.data.toList = true from q6]; rfl]
                have HX1 := Aside0.mk q6
                have HN3 := Aside0.mk (number_calls x3 w5 (by have : x3.size ≤ 65536 := HX3Z.out; omega))
                have z3 : w5.cell? ⟨bw2, 3, none⟩ = some (.string x3) := (blk_cell HWS6.out 3).trans rfl
                clear q6
                go_wp2_with fail
                refine (HN3.out).mono ?_
                rintro E w6 ⟨rfl, hb⟩
                have HG7 := Aside0.mk ((HG6.out).below hb)
                have HR7 := Aside0.mk (Kd.R_below HR6.out hb)
                clear hb HG6 HR6 HWS6 z3 HN3
                cases q7 : okW x3 with
                | false =>
                  have HN := Aside0.mk (HSEC.out (by show (decide (x2 = sStart) && okW x1 && okW x3) = false; rw [q7, HX1.out, HX2.out]; rfl))
                  rw [show numE x3.data.toList = pbad by unfold numE; rw [show numOk x3.data.toList = false from q7]; rfl]
                  unfold pbad
                  go_wp2
                  exact get_panic (getR_bad HSZ.out HN.out) (HG7.out).g _ rfl rfl
                | true =>
                rw [show numE x3.data.toList = .returned (.int .i64 (valW x3)) by unfold numE; rw [show numOk x3.data.toList = true from q7]; rfl]
                have HX3 := Aside0.mk q7
                clear q7
                obtain ⟨k0, k1, k2, k3⟩ := (HG7.out).g.cells
                obtain ⟨f0, f1, f2, f3⟩ := (HG7.out).g.frozen
                go_upto_region 17 with (fail)
                have HG8 := Aside0.mk ((HG7.out).set1 (.int .i64 (valW x3)))
                have HR8 := Aside0.mk (Kd.R_far HR7.out (p := ⟨w.heap.size, 1, none⟩) (fun k hk he => by have h0 : k = w.heap.size := he; omega) (.int .i64 (valW x3)))
                generalize w6.setCell ⟨w.heap.size, 1, none⟩ (.int .i64 (valW x3)) = w7 at *
                clear HG7 HR7 k0 k1 k2 k3 f0 f1 f2 f3 HX1Z HX3Z HSEC HCE HV6 HWZ2
                have HST := Aside0.mk (num_nonneg HX1.out)
                generalize hst : valW x1 = states at *
                have HSTE := Aside0.mk hst
                clear hst
                have HV := Aside0.mk (getV_main hLL HL3.out (HLEE.out.trans HLEM.out) HS0.out HWS0.out HHD.out HWD.out HALL.out HS1.out HWS20.out HHD2.out (of_decide_eq_true HX2.out) HX1.out HX3.out)
                rw [HSTE.out] at HV
                clear HV1 HV3 HV5 HLE HLEE HLEM HS0 HS0Z HHD HWS0 HALL HS1Z HS1 HHD2 HWS20 HX2 HX3 HO2 HBW HBW2 hLL
                obtain ⟨N, hN⟩ : ∃ N : Nat, (if states < 7 then states else 7) = (N : Int) := ⟨(if states < 7 then states else 7).toNat, by have := HST.out; split <;> omega⟩
                have HN7 := Aside0.mk (show N ≤ 7 ∧ N = (min states 7).toNat from by split at hN <;> omega)
                have hmk : ∀ W : World, (Instr.makeSlice 65 (.int .i64 (wd.length : Int)) (.int .i64 (wd.length : Int))).run Tryz.prog W = .ok (.slice (some ⟨W.heap.size, 0, none⟩) wd.length wd.length) (W.alloc (.cells (madeCells #[.slice none 0 0] wd.length) 66)) := fun W => run_make_row' 65 66 (.slice none 0 0) 24 Tryz.underlying65 Q.info66 rfl .i64 .i64 wd.length (by have := HWL.out; omega) (by have := HWL.out; omega) W
                have hmin : min states 7 = (N : Int) := by have := (HN7.out).2; have := HST.out; omega
                go_wp2
                clear hmin
                go_loopg [85] N (fun gg v85 wi => ∃ (j : Nat) (A2 : Option Addr) (c2 : Nat) (gs : List Nat) (u : Nat → Nat → Value), j ≤ N ∧ N - j ≤ gg ∧ v85 = .int .i64 j ∧ Aside0 (GL w wi (.slice A wd.length c) (.int .i64 (valW x3)) (.slice A2 j c2) bl L) ∧ Aside0 (Kd.R (Kd.int .i64) 3 wi w.heap.size (fun k => w.heap.size + 2 ≤ k) (.slice A wd.length c) (wd.map valW)) ∧ Aside0 (MM w.heap.size (w.heap.size + 2) wi (.slice A2 j c2) (List.replicate j (List.replicate wd.length [])) wd.length gs u))
                case atStart => exact ⟨0, none, 0, [], _, Nat.zero_le _, Nat.le_refl _, rfl, HG8, HR8, ⟨MM.start _ _ _ _⟩⟩
                case round =>
                  clear HG8 HR8
                  obtain ⟨j, A2, c2, gs, u, hj, hgg, rfl, HG9, HR9, HMM⟩ := hrel
                  by_cases hlt : j < N
                  · have hltz : (j : Int) < (N : Int) := by omega
                    have HLT := Aside0.mk hlt
                    go_upto_region 19 with (fail)
                    obtain ⟨k0, k1, k2, k3⟩ := (HG9.out).g.cells
                    have hb1 := below_drew (Below.refl wr.heap.size wr)
                    have hb2 := below_alloc hb1 (.cells (madeCells #[.slice none 0 0] wd.length) 66)
                    have hnew := blk_new wr.drew (.cells (madeCells #[.slice none 0 0] wd.length) 66)
                    have m0 := pw_cell_below hb2 k0
                    have m2 := pw_cell_below hb2 k2
                    have HGA := Aside0.mk ((HG9.out).below hb2)
                    have HRA := Aside0.mk (Kd.R_below HR9.out hb2)
                    have HMA := Aside0.mk ((HMM.out).below hb2)
                    have q0_ := pw_cell_below (below_alloc (Below.refl wr.heap.size wr) (.cells (madeCells #[.slice none 0 0] wd.length) 66)) k0
                    have q2_ := pw_cell_below (below_alloc (Below.refl wr.heap.size wr) (.cells (madeCells #[.slice none 0 0] wd.length) 66)) k2
                    have l0 := pw_cell_below (below_alloc (Below.refl (wr.alloc (.cells (madeCells #[.slice none 0 0] wd.length) 66)).heap.size (wr.alloc (.cells (madeCells #[.slice none 0 0] wd.length) 66))) (.cells #[.slice (some ⟨wr.heap.size, 0, none⟩) wd.length wd.length] 65)) q0_
                    have l2 := pw_cell_below (below_alloc (Below.refl (wr.alloc (.cells (madeCells #[.slice none 0 0] wd.length) 66)).heap.size (wr.alloc (.cells (madeCells #[.slice none 0 0] wd.length) 66))) (.cells #[.slice (some ⟨wr.heap.size, 0, none⟩) wd.length wd.length] 65)) q2_
                    have HNEW := Aside0.mk (show (wr.drew.alloc (.cells (madeCells #[.slice none 0 0] wd.length) 66)).heap[wr.heap.size]? = some (.cells (Array.replicate wd.length (.slice none 0 0)) 66 (0, 0)) from by rw [← made_rep]; exact hnew)
                    have HGSL := Aside0.mk (show gs.length = j by rw [(HMM.out).len]; simp)
                    have HGLT := Aside0.mk (show ∀ q, q < (List.replicate j (List.replicate wd.length ([] : List (List Nd)))).length → gs.getD q 0 ≠ wr.heap.size from fun q hq => by have := blk_lt ((HMM.out).rows q hq).2.1; omega)
                    have HB2 := Aside0.mk (show w.heap.size + 2 ≤ wr.heap.size from by have := blk_lt (HG9.out).l; have := (HG9.out).hbl; omega)
                    clear hb1 hb2 hnew
                    refine wp_region_noPanic ?_
                    go_region_law (first
                      | (refine Kd.R_append_step (kRow wd.length) (w0 := w) (W := wr.drew.alloc (.cells (madeCells #[.slice none 0 0] wd.length) 66)) w.heap.size (by simp [Region.wanted]) (.tmp 88) (.tmp 93) 23 65 (.slice none 0 0) 24 rfl Tryz.underlying23 Q.info65 rfl (show 0 < 1 by decide) (by decide) (.slice A2 j c2) gs wr.heap.size [.slice (some ⟨wr.heap.size, 0, none⟩) wd.length wd.length] (fun k => w.heap.size + 2 ≤ k) (fun _ => False) (by rfl) (by show Value.slice (some ⟨wr.heap.size + 1, 0, none⟩) 1 1 = _; simp) rfl (fun _ hk => hk.elim) (fun k hk => by have := blk_lt (HGA.out).l; have := (HGA.out).hbl; omega) (HMA.out).row (HGA.out).g.hb (HGA.out).g.hb.size (by rw [HGSL.out]; have := (HN7.out).1; have := HLT.out; omega) ?_; intro v5 w5 ho5 hb5 hg5 hat5; have HMP := Aside0.mk ((HMA.out).push wr.heap.size HNEW.out HB2.out HGLT.out ho5 hg5); (obtain ⟨A5, c5, e5⟩ := Kd.R_slice ho5); rw [List.length_append, HGSL.out, List.length_singleton] at e5; subst e5; have HGP := Aside0.mk ((HGA.out).app (HMA.out).row (by decide) hb5 hg5); have HRP := Aside0.mk (R_grown9 HRA.out (HMA.out).row (by decide) (fun _ h => by cases h) hg5); clear ho5 hb5 hg5 hat5; obtain ⟨n0, n1, n2, n3⟩ := (HGP.out).g.cells; obtain ⟨g0, g1, g2, g3⟩ := (HGP.out).g.frozen)
                      | fail)
                    all_goals
                      refine NoPanic.normal ?_
                      go_wp2
                      go_roundg (N - (j + 1))
                      case measure => have := HLT.out; omega
                      case rel => exact ⟨j + 1, A5, c5, gs ++ [wr.heap.size], _, HLT.out, Nat.le_refl _, rfl, ⟨(HGP.out).set2 _⟩, ⟨Kd.R_far HRP.out (p := ⟨w.heap.size, 2, none⟩) (fun k hk he => by have h0 : k = w.heap.size := he; omega) _⟩, ⟨by rw [List.replicate_succ']; exact (HMP.out).far (by omega) _⟩⟩
                  · obtain rfl : N = j := by omega
                    clear hlt hj hgg hmk
                    rw [← (HN7.out).2] at HV
                    have hl3 := HL3.out
                    obtain ⟨n, hn⟩ : ∃ n, L.length = n + 3 := ⟨L.length - 3, by omega⟩
                    have HNL := Aside0.mk hn
                    have HLN := Aside0.mk (show n ≤ 65536 from by have := HLS.out; omega)
                    go_upto_region 22 with (fail)
                    rw [hn]
                    have hz1 : wrap64 ((n : Int) + 3 - 1) = (n : Int) + 2 := by rw [wr_id (by omega) (by have := HLN.out; omega)]; omega
                    have hz2 : (0 : Int) ≤ (n : Int) + 2 ∧ (n : Int) + 2 ≤ (n : Int) + 3 := by omega
                    have hz3 : max ((n : Int) + 2) 0 = (n : Int) + 2 := by omega
                    have hz4 : (2 : Int) ≤ (n : Int) + 2 := by omega
                    have hz5 : ((n : Int) + 2).toNat = n + 2 := by omega
                    go_wp2
                    have HV2 := Aside0.mk (show getV t = (gstep states wd.length ((L.drop 2).take n) (-1) (List.replicate N (List.replicate wd.length []))).map fun M => (wd.map valW, valW x3, M) from by have h0 := HV.out; rw [HNL.out] at h0; exact h0)
                    refine loop26 t w L wd n N bl _ A c A2 c2 (valW x3) states _ _ (List.replicate N (List.replicate wd.length [])) gs u _ _ _ _ _ _ _ _ _ _ _ _ _ _ _ _ _ _ _ _ _ _ _ _ _ _ _ _ _ _ _ _ _ _ _ _ _ _ _ _ _ _ _ _ _ _ _ _ _ _ _ _ _ _ _ _ _ _ _ _ _ _ _ _ _ _ _ _ _ _ _ _ _ _ _ _ _ _ _ _ _ _ _ _ _ _ _ _ _ _ _ _ _ _ _ _ _ _ _ _ _ _ _ _ _ _ _ _ _ _ _ _ _ _ _ _ _ _ _ _ _ _ _ _ _ _ _ _ _ _ _ _ _ _ _ _ _ _ _ _ _ _ _ _ _ _ _ _ _ _ _ _ _ _ _ _ _ _ _ _ _ _ _ _ _ _ _ _ _ _ _ _ _ _ _ _ _ _ _ _ _ _ _ _ _ HSZ HM HCS HWL HNL HLN HN7 HST ⟨List.length_replicate⟩ ⟨fun a b => by simp [List.getD_eq_getElem?_getD, List.getElem?_replicate]; split <;> simp [List.getElem?_replicate]; split <;> simp⟩ HG9 HR9 HMM HV2 ?_
                    clear HG9 HR9 HMM HV2 HV hz1 hz2 hz3 hz4 hz5
                    refine ⟨?_⟩
                    intro u9 u11 u12 u13 u14 u15 u16 u17 u18 u19 u20 u103 u104 u105 u106 u107 u108 u109 u110 u111 u112 u113 u114 u115 u116 u117 u118 u119 u120 u121 u122 u123 u124 u125 u126 u127 u128 u129 u130 u131 u132 u133 u134 u135 u136 u137 u138 u139 u140 u141 u142 u143 u144 u145 u146 u147 u148 u149 u150 u151 u152 u153 u154 u155 u156 u157 u158 u159 u160 u161 u162 u163 u164 u165 u166 u167 u168 u169 u170 u171 u172 u173 u174 u175 u176 u177 u178 u179 u180 u181 u182 u183 u184 u185 u186 W M gs uu hG hR hM hL hVV
                    have HG := Aside0.mk hG
                    have hrd := Kd.R_reads' hR
                    obtain ⟨A2', c2', e, hle, hCM⟩ := hM.reads (by have := HWL.out; omega)
                    injection e with e1 e2 e3
                    subst e1 e3
                    have HCK := Aside0.mk (acheckG_calls (wd.map valW) M (valW x3) A c A2 c2 W hrd.2.2 (by rw [List.length_map]; exact hrd.2.1) hCM)
                    have HR := Aside0.mk hR
                    have HMM := Aside0.mk hM
                    have HL := Aside0.mk hL
                    have HVV := Aside0.mk hVV
                    rw [List.length_map, hL] at HCK
                    obtain ⟨k0, k1, k2, k3⟩ := hG.g.cells
                    clear e2 hG hR hM hrd hle hCM hL hVV
                    cases hq : auB (wd.map valW) (valW x3) M with
                    | false =>
                      rw [chk_false hq] at HCK
                      have HRR := Aside0.mk (show getR t = (10, [], 0, []) by unfold getR; rw [if_neg (by have := HSZ.out; omega), HVV.out]; simp only; rw [if_neg (by rw [chk_false hq]; decide)])
                      clear hq
                      go_wp2_with fail
                      refine (HCK.out).mono ?_
                      rintro E W2 ⟨rfl, hb⟩
                      have HG2 := Aside0.mk ((HG.out).below hb)
                      clear hb k0 k1 k2 k3
                      obtain ⟨k0, k1, k2, k3⟩ := (HG2.out).g.cells
                      obtain ⟨f0, f1, f2, f3⟩ := (HG2.out).g.frozen
                      have HQ := Aside0.mk ((((HG2.out).g.set0 (.slice none 0 0)).set1 (.int .i64 0)).set2 (.slice none 0 0))
                      go_wp2
                      exact get_done (A1 := none) (A2 := none) (c1 := 0) (c2 := 0) (rk := []) (M := []) HRR.out ((HQ.out).hb.setCell (p := ⟨w.heap.size + 1, 0, none⟩) (Nat.le_succ _) _) (blk_far (HQ.out).ha (by show w.heap.size ≠ w.heap.size + 1; omega) _) (blk_set (HQ.out).he 0 _) ⟨rfl, by simp, fun h => absurd h (by simp)⟩ (Nat.le_refl _) ⟨rfl, by simp, fun h => absurd h (by simp)⟩ (Nat.le_refl _) _ rfl rfl
                    | true =>
                      rw [chk_true hq] at HCK
                      have HRR := Aside0.mk (show getR t = (0, wd.map valW, valW x3, M) by unfold getR; rw [if_neg (by have := HSZ.out; omega), HVV.out]; simp only; rw [if_pos (chk_true hq)])
                      clear hq
                      go_wp2_with fail
                      refine (HCK.out).mono ?_
                      rintro E W2 ⟨rfl, hb⟩
                      have HG2 := Aside0.mk ((HG.out).below hb)
                      have HR2 := Aside0.mk (Kd.R_below HR.out hb)
                      have HM2 := Aside0.mk ((HMM.out).below hb)
                      clear hb k0 k1 k2 k3
                      obtain ⟨k0, k1, k2, k3⟩ := (HG2.out).g.cells
                      obtain ⟨f0, f1, f2, f3⟩ := (HG2.out).g.frozen
                      have HQ := Aside0.mk ((((HG2.out).g.set0 (.slice A wd.length c)).set1 (.int .i64 (valW x3))).set2 (.slice A2 N c2))
                      have HR3 := Aside0.mk (fun (a : Nat) (ha : a < w.heap.size + 2) (o : Nat) (y : Value) (W3 : World) (h3 : Kd.R (Kd.int .i64) 3 W3 w.heap.size (fun k => w.heap.size + 2 ≤ k) (.slice A wd.length c) (wd.map valW)) => Kd.R_far h3 (p := ⟨a, o, none⟩) (fun k hk he => by have h0 : k = a := he; omega) y)
                      have HM3 := Aside0.mk (fun (a : Nat) (ha : a < w.heap.size + 2) (o : Nat) (y : Value) (W3 : World) (h3 : MM w.heap.size (w.heap.size + 2) W3 (.slice A2 N c2) M wd.length gs uu) => h3.far (a := a) (j := o) ha y)
                      go_wp2
                      have hr := Kd.R_reads' (HR3.out (w.heap.size + 1) (by omega) 0 (.int .i64 0) _ (HR3.out w.heap.size (by omega) 2 (.slice A2 N c2) _ (HR3.out w.heap.size (by omega) 1 (.int .i64 (valW x3)) _ (HR3.out w.heap.size (by omega) 0 (.slice A wd.length c) _ HR2.out))))
                      have hm := HM3.out (w.heap.size + 1) (by omega) 0 (.int .i64 0) _ (HM3.out w.heap.size (by omega) 2 (.slice A2 N c2) _ (HM3.out w.heap.size (by omega) 1 (.int .i64 (valW x3)) _ (HM3.out w.heap.size (by omega) 0 (.slice A wd.length c) _ HM2.out)))
                      obtain ⟨A2', c2', e, hle, hCM⟩ := hm.reads (by have := HWL.out; omega)
                      injection e with e1 e2 e3
                      subst e1 e3
                      exact get_done (A1 := A) (A2 := A2) (c1 := c) (c2 := c2) (rk := wd.map valW) (M := M) HRR.out ((HQ.out).hb.setCell (p := ⟨w.heap.size + 1, 0, none⟩) (Nat.le_succ _) _) (by rw [List.length_map, HL.out]; exact blk_far (HQ.out).ha (by show w.heap.size ≠ w.heap.size + 1; omega) _) (blk_set (HQ.out).he 0 _) hr.2.2 (by rw [List.length_map]; exact hr.2.1) hCM hle _ rfl rfl
            · have h3z : ¬ (((ws2.drop 1).length : Int) = 3) := by omega
              have HN := Aside0.mk (HV6.out (by
                unfold secOk
                split
                · rename_i h; rw [h] at h3; exact absurd rfl h3
                · rfl))
              generalize (ws2.drop 1).length = nn at *
              go_wp2
              exact get_panic (getR_bad HSZ.out HN.out) (HG5.out).g _ rfl rfl
end Go.Proofs.YtbmcigakiibncaaGreatDoor.H
namespace Go.Proofs.YtbmcigakiibncaaGreatDoor.H
open Go.RowKit Go.Proofs.YtbmcigakiibncaaGreatDoorW.PrintWords Go.Proofs.YtbmcigakiibncaaGreatDoorW.PrintLast Go.Proofs.YtbmcigakiibncaaGreatDoorW.PrintMore
open Go.Proofs.YtbmcigakiibncaaGreatDoor.Q (S28 k28)
set_option linter.unusedVariables false
set_option linter.unusedSimpArgs false
def exT : ByteArray := ⟨#[114, 97, 110, 107, 115, 32, 50, 32, 49, 32, 48, 10, 115, 116, 97, 116, 101, 115, 32, 49, 32, 115, 116, 97, 114, 116, 32, 48, 10, 48, 32, 48, 58, 32, 48, 46, 48, 32, 49, 46, 48, 10, 48, 32, 50, 58, 10]⟩
def rk0 : List Int := [2, 1, 0]
def M0 : Mv := [[[[⟨0, 0⟩, ⟨1, 0⟩]], [], [[]]]]
def D0 : Mv := [[[[⟨0, 0⟩], [⟨1, 0⟩]], [[]], []]]
def c0T : S28 := ⟨2, []⟩
def b0T : S28 := ⟨1, [⟨2, []⟩]⟩
def exD : List UInt8 := [114, 97, 110, 107, 115, 32, 50, 32, 49, 32, 48, 10, 115, 116, 97, 116, 101, 115, 32, 49, 32, 115, 116, 97, 114, 116, 32, 48, 10, 48, 32, 48, 58, 32, 48, 46, 48, 10, 48, 32, 48, 58, 32, 49, 46, 48, 10, 48, 32, 49, 58, 10]
theorem ex_get : getR exT = (0, rk0, 0, M0) := by kernel_rfl
theorem ex_dual : dualR rk0 0 M0 = (0, rk0, 0, D0) := by kernel_rfl
theorem ex_put : putR rk0 0 D0 = (exD, 0) := by kernel_rfl
theorem ex_is1 : isV rk0 0 M0 0 c0T = true ∧ stErr rk0 0 M0 0 c0T = 0 := ⟨by kernel_rfl, by kernel_rfl⟩
theorem ex_is2 : isV rk0 0 M0 0 b0T = false ∧ stErr rk0 0 M0 0 b0T = 0 := ⟨by kernel_rfl, by kernel_rfl⟩
theorem ex_is3 : isV rk0 0 D0 1 b0T = true ∧ stErr rk0 0 D0 1 b0T = 0 := ⟨by kernel_rfl, by kernel_rfl⟩
theorem get0_calls (w : World) (hm : MX w) : Calls Tryz.prog 26 #[.string exT] w fun E w' => ∃ A1 c1 A2 c2, E = .returned (.tuple #[.agg #[.slice A1 rk0.length c1, .int .i64 0, .slice A2 M0.length c2], .int .i64 0]) ∧ Kd.C (Kd.int .i64) w' A1 rk0.length rk0 ∧ rk0.length ≤ c1 ∧ Kd.C kA3 w' A2 M0.length M0 ∧ Below w.heap.size w w' := by
  refine (get_calls exT w hm).mono ?_
  intro E w' h
  unfold GetE at h
  rw [ex_get] at h
  obtain ⟨A1, c1, A2, c2, rfl, h1, h2, h3, h4, h5⟩ := h
  exact ⟨A1, c1, A2, c2, rfl, h1, h2, h3, h5⟩
theorem dual0_calls (A1 : Option Addr) (c1 : Nat) (A2 : Option Addr) (c2 : Nat) (w : World) (hr : Kd.C (Kd.int .i64) w A1 rk0.length rk0) (hc1 : rk0.length ≤ c1) (hM : Kd.C kA3 w A2 M0.length M0) (ht : TabD w) :
    Calls Tryz.prog 21 #[.agg #[.slice A1 rk0.length c1, .int .i64 0, .slice A2 M0.length c2]] w fun E w' => ∃ A1 c1 A2 c2, E = .returned (.tuple #[.agg #[.slice A1 rk0.length c1, .int .i64 0, .slice A2 D0.length c2], .int .i64 0]) ∧ Kd.C (Kd.int .i64) w' A1 rk0.length rk0 ∧ rk0.length ≤ c1 ∧ Kd.C kA3 w' A2 D0.length D0 ∧ Below w.heap.size w w' := by
  refine (adual_calls rk0 M0 0 A1 c1 A2 c2 w hr hc1 hM ht).mono ?_
  intro E w' h
  unfold DualRE at h
  rw [ex_dual] at h
  obtain ⟨v1, v2, rfl, h1, h2, h3⟩ := h
  obtain ⟨A3, c3, rfl⟩ := Kd.R_slice h1
  obtain ⟨A4, c4, rfl⟩ := Kd.R_slice h2
  have r1 := Kd.R_reads' h1
  have r2 := Kd.R_reads' h2
  exact ⟨A3, c3, A4, c4, rfl, r1.2.2, r1.2.1, r2.2.2, h3⟩
theorem C_nilT (w : World) : Kd.C k28 w none 0 [] := ⟨rfl, by simp, fun h => absurd h (by simp)⟩
theorem C_oneT {w : World} {g : Nat} {f0 : Int} (h : w.heap[g]? = some (.cells #[.int .i64 f0, .slice none 0 0] 28 (0, 0))) : Kd.C k28 w (some ⟨g, 0, none⟩) 1 [⟨f0, []⟩] := by
  refine ⟨rfl, by simp, fun _ => ⟨_, rfl, fun j p hj => ?_⟩⟩
  have hj0 : j = 0 := by
    have := (List.getElem?_eq_some_iff.1 hj).1
    simpa using this
  subst hj0
  obtain rfl : (⟨f0, []⟩ : S28) = p := by simpa using hj
  refine ⟨[.int .i64 f0, .slice none 0 0], rfl, Q.k28_mk w ⟨f0, []⟩ (A1 := none) (c1 := 0) (Nat.le_refl _) (C_nilT w), fun i u hu => ?_⟩
  rw [show (Addr.add ⟨g, 0, none⟩ (0 * k28.sz + i)) = ⟨g, i, none⟩ by rw [Nat.zero_mul, Nat.zero_add]; simp [Addr.add]; exact fun e => e.symm, blk_cell h i]
  match i, hu with
  | 0, hu => simpa using hu
  | 1, hu => simpa using hu
  | i + 2, hu => simp at hu
theorem box3_of {W : World} {b : Nat} {x y z : Value} (h : W.heap[b]? = some (.cells #[x, y, z] 25 (0, 0))) : W.cell? ⟨b, 0, none⟩ = some x ∧ W.cell? ⟨b, 1, none⟩ = some y ∧ W.cell? ⟨b, 2, none⟩ = some z := ⟨(blk_cell h 0).trans rfl, (blk_cell h 1).trans rfl, (blk_cell h 2).trans rfl⟩
theorem box2_of {W : World} {b : Nat} {x y : Value} (h : W.heap[b]? = some (.cells #[x, y] 28 (0, 0))) : W.cell? ⟨b, 0, none⟩ = some x ∧ W.cell? ⟨b, 1, none⟩ = some y := ⟨(blk_cell h 0).trans rfl, (blk_cell h 1).trans rfl⟩
theorem exD_list : (⟨exD.toArray⟩ : ByteArray).toList = exD := by rw [Lib.toList_data]
theorem is1_calls (A1 : Option Addr) (c1 : Nat) (A2 : Option Addr) (c2 : Nat) (w : World) (hr : Kd.C (Kd.int .i64) w A1 rk0.length rk0) (hc1 : rk0.length ≤ c1) (hM : Kd.C kA3 w A2 M0.length M0) (hT : Tab w) :
    Calls Tryz.prog 15 #[.agg #[.slice A1 rk0.length c1, .int .i64 0, .slice A2 M0.length c2], .int .i64 0, .agg #[.int .i64 2, .slice none 0 0]] w fun E w' => E = .returned (.tuple #[.bool true, .int .i64 0]) ∧ Below w.heap.size w w' := by
  have h := aisG_calls rk0 M0 0 0 c0T A1 c1 A2 c2 none 0 w hr hc1 hM (C_nilT w) (Nat.le_refl _) hT
  rw [ex_is1.1, ex_is1.2] at h
  exact h
theorem is2_calls (A1 : Option Addr) (c1 : Nat) (A2 : Option Addr) (c2 : Nat) (g : Nat) (w : World) (hr : Kd.C (Kd.int .i64) w A1 rk0.length rk0) (hc1 : rk0.length ≤ c1) (hM : Kd.C kA3 w A2 M0.length M0) (hg : w.heap[g]? = some (.cells #[.int .i64 2, .slice none 0 0] 28 (0, 0))) (hT : Tab w) :
    Calls Tryz.prog 15 #[.agg #[.slice A1 rk0.length c1, .int .i64 0, .slice A2 M0.length c2], .int .i64 0, .agg #[.int .i64 1, .slice (some ⟨g, 0, none⟩) 1 1]] w fun E w' => E = .returned (.tuple #[.bool false, .int .i64 0]) ∧ Below w.heap.size w w' := by
  have h := aisG_calls rk0 M0 0 0 b0T A1 c1 A2 c2 (some ⟨g, 0, none⟩) 1 w hr hc1 hM (C_oneT hg) (Nat.le_refl _) hT
  rw [ex_is2.1, ex_is2.2] at h
  exact h
theorem is3_calls (A1 : Option Addr) (c1 : Nat) (A2 : Option Addr) (c2 : Nat) (g : Nat) (w : World) (hr : Kd.C (Kd.int .i64) w A1 rk0.length rk0) (hc1 : rk0.length ≤ c1) (hM : Kd.C kA3 w A2 D0.length D0) (hg : w.heap[g]? = some (.cells #[.int .i64 2, .slice none 0 0] 28 (0, 0))) (hT : Tab w) :
    Calls Tryz.prog 15 #[.agg #[.slice A1 rk0.length c1, .int .i64 0, .slice A2 D0.length c2], .int .i64 1, .agg #[.int .i64 1, .slice (some ⟨g, 0, none⟩) 1 1]] w fun E w' => E = .returned (.tuple #[.bool true, .int .i64 0]) ∧ Below w.heap.size w w' := by
  have h := aisG_calls rk0 D0 0 1 b0T A1 c1 A2 c2 (some ⟨g, 0, none⟩) 1 w hr hc1 hM (C_oneT hg) (Nat.le_refl _) hT
  rw [ex_is3.1, ex_is3.2] at h
  exact h
theorem put0_calls (A1 : Option Addr) (c1 : Nat) (A2 : Option Addr) (c2 : Nat) (w : World) (hr : Kd.C (Kd.int .i64) w A1 rk0.length rk0) (hc1 : rk0.length ≤ c1) (hM : Kd.C kA3 w A2 D0.length D0) :
    Calls Tryz.prog 24 #[.agg #[.slice A1 rk0.length c1, .int .i64 0, .slice A2 D0.length c2]] w fun E w' => E = .returned (.tuple #[.string ⟨exD.toArray⟩, .int .i64 0]) ∧ Below w.heap.size w w' := by
  refine (put_calls rk0 D0 0 A1 c1 A2 c2 w hr hc1 hM).mono ?_
  intro E w' h
  unfold PutE at h
  rw [ex_put] at h
  exact h
set_option maxHeartbeats 16000000 in
set_option maxRecDepth 100000 in
theorem alive_calls (w : World) (hm : MX w) (ht : TabD w) : Calls Tryz.prog 18 #[] w fun E w' => E = .returned (.bool true) ∧ Below w.heap.size w w' := by
  have HG := Aside0.mk (get0_calls w hm)
  have HT := Aside0.mk ht
  unfold exT at HG
  clear hm ht
  go_enter Tryz.func18, Tryz.ntmps18
  go_wp2_with fail
  refine (HG.out).mono ?_
  rintro E W1 ⟨A1, c1, A2, c2, rfl, hr1, hc1, hM1, hb1⟩
  have HB1 := Aside0.mk hb1
  have HR1 := Aside0.mk hr1
  have HC1 := Aside0.mk hc1
  have HM1 := Aside0.mk hM1
  have hba := below_alloc (Below.refl W1.heap.size W1) (.cells #[.slice A1 rk0.length c1, .int .i64 0, .slice A2 M0.length c2] 25)
  have HX1 := Aside0.mk (blk_new W1 (.cells #[.slice A1 rk0.length c1, .int .i64 0, .slice A2 M0.length c2] 25))
  have HB2 := Aside0.mk (below_then hb1 hb1.size hba)
  have HR2 := Aside0.mk (Kd.C_below hr1 hba)
  have HM2 := Aside0.mk (Kd.C_below hM1 hba)
  clear hr1 hc1 hM1 hb1 hba HG HR1 HM1
  go_upto_region 2 with (fail)
  generalize W1.alloc (.cells #[.slice A1 rk0.length c1, .int .i64 0, .slice A2 M0.length c2] 25) = W2 at *
  generalize W1.heap.size = b1 at *
  obtain ⟨k0, k1, k2⟩ := box3_of HX1.out
  have HDU := Aside0.mk (dual0_calls A1 c1 A2 c2 W2 HR2.out HC1.out HM2.out ((HT.out).below HB2.out))
  go_wp2_with fail
  refine (HDU.out).mono ?_
  rintro E W3 ⟨A3, c3, A4, c4, rfl, hr3, hc3, hM3, hb3⟩
  have hba := below_alloc (Below.refl W3.heap.size W3) (.cells #[.slice A3 rk0.length c3, .int .i64 0, .slice A4 D0.length c4] 25)
  have hb4 := below_then hb3 hb3.size hba
  have HB4 := Aside0.mk (below_then HB2.out (HB2.out).size hb4)
  have HX1' := Aside0.mk (blk_below HX1.out hb4)
  have HR4 := Aside0.mk (Kd.C_below HR2.out hb4)
  have HM4 := Aside0.mk (Kd.C_below HM2.out hb4)
  have HX3 := Aside0.mk (blk_new W3 (.cells #[.slice A3 rk0.length c3, .int .i64 0, .slice A4 D0.length c4] 25))
  have HC3 := Aside0.mk hc3
  have HS4 := Aside0.mk (Kd.C_below hr3 hba)
  have HN4 := Aside0.mk (Kd.C_below hM3 hba)
  clear hr3 hc3 hM3 hb3 hba hb4 k0 k1 k2 HDU HX1 HR2 HM2 HB2
  go_upto_region 3 with (fail)
  generalize W3.alloc (.cells #[.slice A3 rk0.length c3, .int .i64 0, .slice A4 D0.length c4] 25) = W4 at *
  generalize W3.heap.size = b3 at *
  have hba := below_alloc (below_alloc (below_alloc (Below.refl W4.heap.size W4) (.cells #[.int .i64 2, .slice none 0 0] 28)) (.cells #[.int .i64 2, .slice none 0 0] 28)) (.cells #[.int .i64 1, .slice (some ⟨W4.heap.size + 1, 0, none⟩) 1 1] 28)
  have h5 := blk_alloc (blk_alloc (blk_new W4 (.cells #[.int .i64 2, .slice none 0 0] 28)) (.cells #[.int .i64 2, .slice none 0 0] 28)) (.cells #[.int .i64 1, .slice (some ⟨W4.heap.size + 1, 0, none⟩) 1 1] 28)
  have h6 := blk_alloc (blk_at2 W4 (.cells #[.int .i64 2, .slice none 0 0] 28) (.cells #[.int .i64 2, .slice none 0 0] 28)) (.cells #[.int .i64 1, .slice (some ⟨W4.heap.size + 1, 0, none⟩) 1 1] 28)
  have h7 := blk_new ((W4.alloc (.cells #[.int .i64 2, .slice none 0 0] 28)).alloc (.cells #[.int .i64 2, .slice none 0 0] 28)) (.cells #[.int .i64 1, .slice (some ⟨W4.heap.size + 1, 0, none⟩) 1 1] 28)
  have k5 := box2_of (blk_new W4 (.cells #[.int .i64 2, .slice none 0 0] 28))
  obtain ⟨k50, k51⟩ := k5
  have HB5 := Aside0.mk (below_then HB4.out (HB4.out).size hba)
  have HX5 := Aside0.mk (blk_below HX1'.out hba)
  have HY5 := Aside0.mk (blk_below HX3.out hba)
  have HR5 := Aside0.mk (Kd.C_below HR4.out hba)
  have HM5 := Aside0.mk (Kd.C_below HM4.out hba)
  have HS5 := Aside0.mk (Kd.C_below HS4.out hba)
  have HN5 := Aside0.mk (Kd.C_below HN4.out hba)
  have HT5 := Aside0.mk h5
  have HT6 := Aside0.mk h6
  rw [show ((W4.alloc (.cells #[.int .i64 2, .slice none 0 0] 28)).alloc (.cells #[.int .i64 2, .slice none 0 0] 28)).heap.size = W4.heap.size + 1 + 1 by simp] at h7
  have HT7 := Aside0.mk h7
  clear hba h5 h6 h7
  go_upto_region 5 with (fail)
  clear k50 k51
  generalize (((W4.alloc (.cells #[.int .i64 2, .slice none 0 0] 28)).alloc (.cells #[.int .i64 2, .slice none 0 0] 28)).alloc (.cells #[.int .i64 1, .slice (some ⟨W4.heap.size + 1, 0, none⟩) 1 1] 28)) = W5 at *
  generalize W4.heap.size = g at *
  have HI1 := Aside0.mk (fun (W : World) (hb : Below W5.heap.size W5 W) => is1_calls A1 c1 A2 c2 W (Kd.C_below HR5.out hb) HC1.out (Kd.C_below HM5.out hb) ((HT.out).tab.below (below_then HB5.out (HB5.out).size hb)))
  have HI2 := Aside0.mk (fun (W : World) (hb : Below W5.heap.size W5 W) => is2_calls A1 c1 A2 c2 (g + 1) W (Kd.C_below HR5.out hb) HC1.out (Kd.C_below HM5.out hb) (blk_below HT6.out hb) ((HT.out).tab.below (below_then HB5.out (HB5.out).size hb)))
  have HI3 := Aside0.mk (fun (W : World) (hb : Below W5.heap.size W5 W) => is3_calls A3 c3 A4 c4 (g + 1) W (Kd.C_below HS5.out hb) HC3.out (Kd.C_below HN5.out hb) (blk_below HT6.out hb) ((HT.out).tab.below (below_then HB5.out (HB5.out).size hb)))
  have HPU := Aside0.mk (fun (W : World) (hb : Below W5.heap.size W5 W) => put0_calls A3 c3 A4 c4 W (Kd.C_below HS5.out hb) HC3.out (Kd.C_below HN5.out hb))
  obtain ⟨k10, k11, k12⟩ := box3_of HX5.out
  obtain ⟨k50, k51⟩ := box2_of HT5.out
  go_wp2_with fail
  refine (HI1.out _ (Below.refl _ _)).mono ?_
  rintro E W6 ⟨rfl, hb6⟩
  have HB6 := Aside0.mk hb6
  clear k10 k11 k12 k50 k51 hb6
  obtain ⟨k10, k11, k12⟩ := box3_of (blk_below HX5.out HB6.out)
  obtain ⟨k60, k61⟩ := box2_of (blk_below HT7.out HB6.out)
  go_wp2_with fail
  refine (HI2.out _ HB6.out).mono ?_
  rintro E W7 ⟨rfl, hb7⟩
  have HB7 := Aside0.mk (below_then HB6.out (HB6.out).size hb7)
  clear k10 k11 k12 k60 k61 hb7
  obtain ⟨k10, k11, k12⟩ := box3_of (blk_below HY5.out HB7.out)
  obtain ⟨k60, k61⟩ := box2_of (blk_below HT7.out HB7.out)
  go_wp2_with fail
  refine (HI3.out _ HB7.out).mono ?_
  rintro E W8 ⟨rfl, hb8⟩
  have HB8 := Aside0.mk (below_then HB7.out (HB7.out).size hb8)
  clear k10 k11 k12 k60 k61 hb8
  obtain ⟨k10, k11, k12⟩ := box3_of (blk_below HY5.out HB8.out)
  go_wp2_with fail
  refine (HPU.out _ HB8.out).mono ?_
  rintro E W9 ⟨rfl, hb9⟩
  have HB9 := Aside0.mk (below_then HB5.out (HB5.out).size (below_then HB8.out (HB8.out).size hb9))
  have hex := exD_list
  unfold exD at hex ⊢
  clear k10 k11 k12 hb9
  go_wp2
  go_ret
  exact ⟨rfl, HB9.out⟩
end Go.Proofs.YtbmcigakiibncaaGreatDoor.H
namespace Go.Proofs.YtbmcigakiibncaaGreatDoor.H
open Go.RowKit Go.Proofs.YtbmcigakiibncaaGreatDoorW.PrintWords Go.Proofs.YtbmcigakiibncaaGreatDoorW.PrintLast Go.Proofs.YtbmcigakiibncaaGreatDoorW.PrintMore
set_option linter.unusedVariables false
set_option linter.unusedSimpArgs false
theorem TX.cells {w W : World} {x y z : Value} (h : TX w x y z W) : W.cell? ⟨w.heap.size, 0, none⟩ = some x ∧ W.cell? ⟨w.heap.size, 1, none⟩ = some y ∧ W.cell? ⟨w.heap.size, 2, none⟩ = some z :=
  ⟨(blk_cell h.box 0).trans rfl, (blk_cell h.box 1).trans rfl, (blk_cell h.box 2).trans rfl⟩
end Go.Proofs.YtbmcigakiibncaaGreatDoor.H
namespace Go.Proofs.YtbmcigakiibncaaGreatDoor.H
open Go.RowKit Go.Proofs.YtbmcigakiibncaaGreatDoorW.PrintWords Go.Proofs.YtbmcigakiibncaaGreatDoorW.PrintLast Go.Proofs.YtbmcigakiibncaaGreatDoorW.PrintMore
open Go.Proofs.YtbmcigakiibncaaGreatDoor.Q (S28 k28 z28 rd_T28 at_T28)
set_option linter.unusedVariables false
set_option linter.unusedSimpArgs false
def satA (M : Mv) (z : Bool) (l : List S28) (al : List Nd) : Bool := al.all fun x => ((accGL M z l).getD x.f0.toNat (fun _ => false)) x.f1.toNat
end Go.Proofs.YtbmcigakiibncaaGreatDoor.H
namespace Go.Proofs.YtbmcigakiibncaaGreatDoor.H
open Go.RowKit Go.Proofs.YtbmcigakiibncaaGreatDoorW.PrintWords Go.Proofs.YtbmcigakiibncaaGreatDoorW.PrintLast Go.Proofs.YtbmcigakiibncaaGreatDoorW.PrintMore
open Go.Proofs.YtbmcigakiibncaaGreatDoor.Q (S28 k28 z28 rd_T28)
set_option linter.unusedVariables false
set_option linter.unusedSimpArgs false
theorem rover_ev (rk : List Int) (N : Nat) : ∀ t : S28, nodes t ≤ N → N ≤ 20000 → Ev (fun k => Q.virgationref06_over.f k rk t.f0 t.f1) (overB rk t) := by
  induction N with
  | zero => intro t h; have := nodes_pos t; omega
  | succ N ih =>
    intro t h hN
    obtain ⟨s, l⟩ := t
    rw [nodes] at h
    have hll := lens_le (l := l)
    have loop : ∀ d j : Nat, l.length - j = d → j ≤ l.length → Ev (fun k => Q.virgationref06_over.l0 k rk l (l.length : Int) (j : Int)) (overL rk (l.drop j)) := by
      intro d
      induction d with
      | zero =>
        intro j hd hj
        refine ev_end fun k => ?_
        simp only [Q.virgationref06_over.l0]
        rw [if_neg (by omega), List.drop_eq_nil_of_le (by omega), overL]
      | succ d ihd =>
        intro j hd hj
        have hlt : j < l.length := by omega
        rw [dropT hlt, overL]
        have e1 := ih l[j] (by have := nodes_mem (List.getElem_mem hlt); omega) (by omega)
        have e2 := ihd (j + 1) (by omega) (by omega)
        rw [show ((j + 1 : Nat) : Int) = wrap64 ((j : Int) + 1) from (wrap_succ (i := (j : Int)) (by omega) (by omega)).symm] at e2
        refine ev_next (Ev.bind (f := fun k t => if t = true then Q.virgationref06_over.l0 k rk l (l.length : Int) (wrap64 ((j : Int) + 1)) else some false) e1 ?_) fun k => ?_
        · cases overB rk l[j] with
          | true => simpa using e2
          | false => simpa using Ev.now false
        · simp only [Q.virgationref06_over.l0]
          rw [if_pos (by omega), if_pos (by omega), if_pos (by omega), rdT_at hlt]
    have hgo : Ev (fun k => Q.virgationref06_over.j0 k rk false s l) (overL rk l) := by
      have e := loop l.length 0 (by omega) (by omega)
      rw [List.drop_zero] at e
      exact ev_next e fun k => by simp [Q.virgationref06_over.j0]
    have hno : Ev (fun k => Q.virgationref06_over.j0 k rk true s l) false := ev_end fun k => by simp [Q.virgationref06_over.j0]
    rw [overB]
    by_cases h3 : s = -1
    · subst h3
      by_cases h4 : l.length = 0
      · obtain rfl : l = [] := List.length_eq_zero_iff.1 h4
        refine ev_next hgo fun k => ?_
        simp only [Q.virgationref06_over.f]
        rw [if_neg (by omega), if_neg (by omega), if_pos trivial, if_neg (by simp), if_neg (by omega)]
      · rw [decide_eq_false h4, decide_eq_false (by omega : ¬ (0 : Int) ≤ -1)]
        simp only [Bool.and_false, Bool.false_and, Bool.or_false]
        refine ev_next hno fun k => ?_
        simp only [Q.virgationref06_over.f]
        rw [if_neg (by omega), if_neg (by omega), if_pos trivial, if_pos (by omega)]
    by_cases h1 : s < -1
    · rw [decide_eq_false h3, decide_eq_false (by omega : ¬ 0 ≤ s)]
      simp only [Bool.and_false, Bool.false_and, Bool.or_false]
      refine ev_next hno fun k => ?_
      simp only [Q.virgationref06_over.f]
      rw [if_pos h1]
    by_cases h2 : s ≥ (rk.length : Int)
    · rw [decide_eq_false (by omega : ¬ s < (rk.length : Int)), decide_eq_false h3]
      simp only [Bool.false_and, Bool.and_false, Bool.or_false]
      refine ev_next hno fun k => ?_
      simp only [Q.virgationref06_over.f]
      rw [if_neg h1, if_pos h2]
    · rw [decide_eq_false h3, decide_eq_true (by omega : 0 ≤ s), decide_eq_true (by omega : s < (rk.length : Int))]
      by_cases h5 : (l.length : Int) = rd rk s
      · rw [decide_eq_true h5]
        simp only [Bool.false_and, Bool.false_or, Bool.true_and]
        refine ev_next hgo fun k => ?_
        simp only [Q.virgationref06_over.f]
        rw [if_neg h1, if_neg h2, if_neg h3, if_pos (by omega), if_pos (by omega), if_pos (by omega), h5, bne_self_eq_false]
      · rw [decide_eq_false h5]
        simp only [Bool.false_and, Bool.false_or, Bool.and_false]
        refine ev_next hno fun k => ?_
        simp only [Q.virgationref06_over.f]
        rw [if_neg h1, if_neg h2, if_neg h3, if_pos (by omega), if_pos (by omega), if_pos (by omega), show ((l.length : Int) != rd rk s) = true by simpa using h5]
theorem nodesL_drop {l : List S28} {j : Nat} (h : j < l.length) : nodesL (l.drop j) = nodes l[j] + nodesL (l.drop (j + 1)) := by rw [dropT h, nodesL]
mutual
def lensT : S28 → Prop
  | ⟨_, l⟩ => l.length ≤ 9223372036854775807 ∧ lensTL l
def lensTL : List S28 → Prop
  | [] => True
  | t :: r => lensT t ∧ lensTL r
end
theorem lensTL_iff {l : List S28} : lensTL l ↔ ∀ t ∈ l, lensT t := by
  induction l with
  | nil => simp [lensTL]
  | cons a r ih => rw [lensTL, ih]; simp
theorem lensT_of {w : World} (N : Nat) : ∀ (t : S28) (A : Option Addr), nodes t ≤ N → Kd.C k28 w A t.f1.length t.f1 → lensT t := by
  induction N with
  | zero => intro t A h; have := nodes_pos t; omega
  | succ N ih =>
    intro t A h hC
    obtain ⟨s, l⟩ := t
    rw [nodes] at h
    rw [lensT]
    refine ⟨hC.2.1, lensTL_iff.2 fun t ht => ?_⟩
    obtain ⟨i, hi, rfl⟩ := List.mem_iff_getElem.1 ht
    obtain ⟨ad, A1, c1, e, _, _, _, h1⟩ := Q.at_T28 hC (i : Int) (by omega) (by show (i : Int) < (l.length : Int); omega)
    rw [rdT_at hi] at h1
    exact ih _ A1 (by have := nodes_mem ht; omega) h1
theorem depth_mem {l : List S28} {t : S28} (h : t ∈ l) : depth t ≤ depthL l := by
  induction l with
  | nil => cases h
  | cons a r ihr =>
    rw [depthL]
    rcases List.mem_cons.1 h with rfl | ht
    · omega
    · have := ihr ht; omega
theorem rnodes_ev (D : Nat) : ∀ (t : S28) (most : Nat), depth t ≤ D → most ≤ 20000 → lensT t → Ev (fun k => Q.virgationref06_Nodes.f k t.f0 t.f1 (most : Int)) ((min (nodes t) (most + 1) : Nat) : Int) := by
  induction D with
  | zero => intro t most h; cases t; rw [depth] at h; omega
  | succ D ih =>
    intro t most h hm hlen
    obtain ⟨s, l⟩ := t
    rw [lensT] at hlen
    have hl : l.length ≤ 9223372036854775807 := hlen.1
    have loop : ∀ d j n : Nat, l.length - j = d → j ≤ l.length → n ≤ most + 1 → Ev (fun k => Q.virgationref06_Nodes.l0 k (most : Int) (n : Int) (j : Int) s l) ((min (n + nodesL (l.drop j)) (most + 1) : Nat) : Int) := by
      intro d
      induction d with
      | zero =>
        intro j n hd hj hn
        refine ev_end fun k => ?_
        simp only [Q.virgationref06_Nodes.l0]
        rw [if_neg (by omega), List.drop_eq_nil_of_le (by omega), nodesL]
        congr 1
        omega
      | succ d ihd =>
        intro j n hd hj hn
        have hlt : j < l.length := by omega
        by_cases hnm : n ≤ most
        · have hdep : depth l[j] ≤ D := by
            rw [depth] at h
            have := depth_mem (List.getElem_mem hlt)
            omega
          have e1 := ih l[j] (most - n) hdep (by omega) (lensTL_iff.1 hlen.2 _ (List.getElem_mem hlt))
          have hp := nodes_pos l[j]
          refine ev_next (f := fun k => (Q.virgationref06_Nodes.f k (l[j]).f0 (l[j]).f1 ((most - n : Nat) : Int)).bind fun t => Q.virgationref06_Nodes.l0 k (most : Int) (wrap64 ((n : Int) + t)) ((j + 1 : Nat) : Int) s l) (Ev.bind e1 ?_) fun k => ?_
          · have e2 := ihd (j + 1) (n + min (nodes l[j]) (most - n + 1)) (by omega) (by omega) (by omega)
            rw [wr_id (by omega) (by omega), show (n : Int) + ((min (nodes l[j]) (most - n + 1) : Nat) : Int) = ((n + min (nodes l[j]) (most - n + 1) : Nat) : Int) by omega, nodesL_drop hlt]
            rw [show min (n + (nodes l[j] + nodesL (l.drop (j + 1)))) (most + 1) = min (n + min (nodes l[j]) (most - n + 1) + nodesL (l.drop (j + 1))) (most + 1) by omega]
            exact e2
          · simp only [Q.virgationref06_Nodes.l0]
            rw [if_pos (by omega), if_pos (by omega), if_pos (by omega), rdT_at hlt, wrap_succ (by omega) (by omega), wr_id (x := (most : Int) - (n : Int)) (by omega) (by omega), show (most : Int) - (n : Int) = ((most - n : Nat) : Int) by omega]
            rfl
        · refine ev_end fun k => ?_
          simp only [Q.virgationref06_Nodes.l0]
          rw [if_pos (by omega), if_neg (by omega)]
          congr 1
          omega
    have e := loop l.length 0 1 (by omega) (by omega) (by omega)
    rw [List.drop_zero] at e
    rw [nodes, show nodesL l + 1 = 1 + nodesL l by omega]
    refine ev_next e fun k => ?_
    simp only [Q.virgationref06_Nodes.f]
    rfl
theorem depthL_drop {l : List S28} {j : Nat} (h : j < l.length) : depthL (l.drop j) = max (depth l[j]) (depthL (l.drop (j + 1))) := by rw [dropT h, depthL]
theorem rdepth_ev (N : Nat) : ∀ t : S28, nodes t ≤ N → N ≤ 20000 → Ev (fun k => Q.virgationref06_Depth.f k t.f0 t.f1) ((depth t : Nat) : Int) := by
  induction N with
  | zero => intro t h; have := nodes_pos t; omega
  | succ N ih =>
    intro t h hN
    obtain ⟨s, l⟩ := t
    rw [nodes] at h
    have hll := lens_le (l := l)
    have loop : ∀ d j m : Nat, l.length - j = d → j ≤ l.length → m ≤ 20000 → Ev (fun k => Q.virgationref06_Depth.l0 k (m : Int) l (l.length : Int) (j : Int)) ((max m (depthL (l.drop j)) + 1 : Nat) : Int) := by
      intro d
      induction d with
      | zero =>
        intro j m hd hj hm
        refine ev_end fun k => ?_
        simp only [Q.virgationref06_Depth.l0]
        rw [if_neg (by omega), List.drop_eq_nil_of_le (by omega), depthL, wrap_succ (by omega) (by omega)]
        congr 1
        omega
      | succ d ihd =>
        intro j m hd hj hm
        have hlt : j < l.length := by omega
        have hnj := nodes_mem (List.getElem_mem hlt)
        have e1 := ih l[j] (by omega) (by omega)
        have hdj := depth_le l[j]
        refine ev_next (f := fun k => (Q.virgationref06_Depth.f k (l[j]).f0 (l[j]).f1).bind fun t => Q.virgationref06_Depth.l0 k (mx (m : Int) t) l (l.length : Int) ((j + 1 : Nat) : Int)) (Ev.bind e1 ?_) fun k => ?_
        · have e2 := ihd (j + 1) (max m (depth l[j])) (by omega) (by omega) (by omega)
          rw [depthL_drop hlt, show max m (max (depth l[j]) (depthL (l.drop (j + 1)))) = max (max m (depth l[j])) (depthL (l.drop (j + 1))) by omega]
          rw [show mx (m : Int) ((depth l[j] : Nat) : Int) = ((max m (depth l[j]) : Nat) : Int) by unfold mx; split <;> omega]
          exact e2
        · simp only [Q.virgationref06_Depth.l0]
          rw [if_pos (by omega), if_pos (by omega), if_pos (by omega), rdT_at hlt, wrap_succ (by omega) (by omega)]
          rfl
    have e := loop l.length 0 0 (by omega) (by omega) (by omega)
    rw [List.drop_zero] at e
    rw [depth, show depthL l + 1 = max 0 (depthL l) + 1 by omega]
    refine ev_next e fun k => ?_
    simp only [Q.virgationref06_Depth.f]
    rfl
theorem ris_ev (rk : List Int) (t : S28) (hl : lensT t) : Ev (fun k => Q.virgationref06_Is.f k rk t.f0 t.f1) (treeOk rk t) := by
  unfold Q.virgationref06_Is.f treeOk
  refine Ev.bind (rnodes_ev _ t 20000 (Nat.le_refl _) (Nat.le_refl _) hl) ?_
  by_cases h1 : nodes t ≤ 20000
  · rw [decide_eq_true h1, Bool.true_and]
    simp only [if_pos (show ((min (nodes t) (20000 + 1) : Nat) : Int) ≤ 20000 by omega)]
    refine Ev.bind (rdepth_ev _ t (Nat.le_refl _) h1) ?_
    by_cases h2 : depth t ≤ 200
    · rw [decide_eq_true h2, Bool.true_and]
      simp only [if_pos (show ((depth t : Nat) : Int) ≤ 200 by omega)]
      exact Ev.bind (rover_ev rk _ t (Nat.le_refl _) h1) (ev_end fun k => rfl)
    · rw [decide_eq_false h2, Bool.false_and]
      simp only [if_neg (show ¬ ((depth t : Nat) : Int) ≤ 200 by omega)]
      exact ev_end fun k => rfl
  · rw [decide_eq_false h1, Bool.false_and, Bool.false_and]
    simp only [if_neg (show ¬ ((min (nodes t) (20000 + 1) : Nat) : Int) ≤ 20000 by omega)]
    exact ev_end fun k => rfl
theorem rtis_calls (rk : List Int) (t : S28) (A1 : Option Addr) (c1 : Nat) (A : Option Addr) (c : Nat) (w : World) (hr : Kd.C (Kd.int .i64) w A1 rk.length rk) (hc1 : rk.length ≤ c1) (hC : Kd.C k28 w A t.f1.length t.f1) (hc : t.f1.length ≤ c) :
    Calls Tryz.prog 29 #[.slice A1 rk.length c1, .agg #[.int .i64 t.f0, .slice A t.f1.length c]] w fun E w' => E = .returned (.bool (treeOk rk t)) ∧ Below w.heap.size w w' := by
  obtain ⟨k, hk⟩ := (ris_ev rk t (lensT_of _ t A (Nat.le_refl _) hC)).rounds
  exact Q.virgationref06_Is.calls k A1 c1 rk t.f0 A c t.f1 _ w hr hc1 hC hc hk
end Go.Proofs.YtbmcigakiibncaaGreatDoor.H
namespace Go.Proofs.YtbmcigakiibncaaGreatDoor.H
open Go.RowKit Go.Proofs.YtbmcigakiibncaaGreatDoorW.PrintWords Go.Proofs.YtbmcigakiibncaaGreatDoorW.PrintLast Go.Proofs.YtbmcigakiibncaaGreatDoorW.PrintMore
open Go.Proofs.YtbmcigakiibncaaGreatDoor.Q (S28 k28 z28 rd_T28 at_T28)
set_option linter.unusedVariables false
set_option linter.unusedSimpArgs false
def stL (n : Nat) (p : Nat → Bool) : List Int := ((List.range n).filter p).map fun (i : Nat) => (i : Int)
theorem bits_stL {n o : Nat} {p : Nat → Bool} (hn : n ≤ 6) (h : IsMask n p o) : bitsL o = stL n p := by
  unfold bitsL stL
  congr 1
  have h1 : (List.range 6).filter (fun i => o.testBit i) = (List.range 6).filter (fun i => decide (i < n) && p i) := List.filter_congr fun i hi => h.2 i (List.mem_range.1 hi)
  rw [h1]
  have key : ∀ m, n ≤ m → (List.range m).filter (fun i => decide (i < n) && p i) = (List.range n).filter p := by
    intro m
    induction m with
    | zero => intro hm; obtain rfl : n = 0 := by omega
              rfl
    | succ m ih =>
      intro hm
      rcases Nat.lt_or_ge m n with hlt | hge
      · obtain rfl : n = m + 1 := by omega
        exact List.filter_congr fun i hi => by rw [decide_eq_true (List.mem_range.1 hi), Bool.true_and]
      · rw [List.range_succ, List.filter_append, ih hge]
        simp [show ¬ m < n by omega]
  exact key 6 hn
def stV (rk : List Int) (st : Int) (M : Mv) (mode : Int) (t : S28) : List Int := if stErr rk st M mode t = 0 then stL M.length (accG M (decide (mode = 0)) t) else []
theorem stErr_zero {rk : List Int} {st : Int} {M : Mv} {mode : Int} {t : S28} (h : stErr rk st M mode t = 0) : auB rk st M = true ∧ treeOk rk t = true ∧ (mode = 0 ∨ mode = 1) := by
  unfold stErr at h
  cases h1 : auB rk st M with
  | false => rw [h1] at h; simp at h
  | true =>
    cases h2 : treeOk rk t with
    | false => rw [h1, h2] at h; simp at h
    | true =>
      rw [h1, h2, if_pos rfl, if_pos rfl] at h
      refine ⟨rfl, rfl, ?_⟩
      apply Classical.byContradiction
      intro hc
      rw [if_neg hc] at h
      cases h
def StE (rk : List Int) (st : Int) (M : Mv) (mode : Int) (t : S28) (w : World) (E : Ending) (w' : World) : Prop :=
  ∃ (A : Option Addr) (c : Nat), E = .returned (.tuple #[.slice A (stV rk st M mode t).length c, .int .i64 (stErr rk st M mode t)]) ∧ (stV rk st M mode t).length ≤ c ∧ Kd.C (Kd.int .i64) w' A (stV rk st M mode t).length (stV rk st M mode t) ∧ Below w.heap.size w w'
theorem StE.of {rk : List Int} {st : Int} {M : Mv} {mode : Int} {t : S28} {w w' : World} {l : List Int} {er : Int} {A : Option Addr} {c : Nat} (hv : stV rk st M mode t = l) (he : stErr rk st M mode t = er) (h : l.length ≤ c) (hC : Kd.C (Kd.int .i64) w' A l.length l) (hb : Below w.heap.size w w') :
    StE rk st M mode t w (.returned (.tuple #[.slice A l.length c, .int .i64 er])) w' := by
  subst hv he
  exact ⟨A, c, rfl, h, hC, hb⟩
theorem statesE_calls (rk : List Int) (M : Mv) (st mode : Int) (t : S28) (A1 : Option Addr) (c1 : Nat) (A2 : Option Addr) (c2 : Nat) (A : Option Addr) (c : Nat) (w : World)
    (hr : Kd.C (Kd.int .i64) w A1 rk.length rk) (hc1 : rk.length ≤ c1) (hM : Kd.C kA3 w A2 M.length M) (hC : Kd.C k28 w A t.f1.length t.f1) (hc : t.f1.length ≤ c) (hT : Tab w) :
    Calls Tryz.prog 13 #[.agg #[.slice A1 rk.length c1, .int .i64 st, .slice A2 M.length c2], .int .i64 mode, .agg #[.int .i64 t.f0, .slice A t.f1.length c]] w (StE rk st M mode t w) := by
  refine (statesG_calls rk M st mode t A1 c1 A2 c2 A c w hr hc1 hM hC hc hT).mono ?_
  rintro E w' ⟨ys, A', c', rfl, h1, h2, h3, h4, h5⟩
  have e : ys = stV rk st M mode t := by
    unfold stV
    by_cases h : stErr rk st M mode t = 0
    · rw [if_pos h]
      obtain ⟨o, hm, rfl⟩ := h4 h
      exact bits_stL (auOk (stErr_zero h).1).nM hm
    · rw [if_neg h]; exact h5 h
  subst e
  exact ⟨A', c', rfl, h1, h2, h3⟩
end Go.Proofs.YtbmcigakiibncaaGreatDoor.H
namespace Go.Proofs.YtbmcigakiibncaaGreatDoor.H
open Go.RowKit Go.Proofs.YtbmcigakiibncaaGreatDoorW.PrintWords Go.Proofs.YtbmcigakiibncaaGreatDoorW.PrintLast Go.Proofs.YtbmcigakiibncaaGreatDoorW.PrintMore
open Go.Proofs.YtbmcigakiibncaaGreatDoor.Q (S28 k28 z28 rd_T28 at_T28)
set_option linter.unusedVariables false
set_option linter.unusedSimpArgs false
theorem in_eq : ∀ (k : Nat) (x0 x1 : List Int) (x12 x13 : Int), Q.virgationlaw09_ints.l0 k x0 x1 x12 x13 = Q.slices_Equal_int_int.l0 k x0 x1 x12 x13
  | 0, _, _, _, _ => rfl
  | k + 1, x0, x1, x12, x13 => by
    simp only [Q.virgationlaw09_ints.l0, Q.slices_Equal_int_int.l0]
    rw [in_eq k]
theorem ints_calls (A : Option Addr) (c : Nat) (a : List Int) (B : Option Addr) (d : Nat) (b : List Int) (w : World) (hA : Kd.C (Kd.int .i64) w A a.length a) (hc : a.length ≤ c) (hB : Kd.C (Kd.int .i64) w B b.length b) (hd : b.length ≤ d) :
    Calls Tryz.prog 17 #[.slice A a.length c, .slice B b.length d] w fun e w' => e = .returned (.bool (eqI a b)) ∧ Below w.heap.size w w' := by
  obtain ⟨k, hk⟩ := (show Ev (fun k => Q.virgationlaw09_ints.f k a b) (eqI a b) from Ev.congr (fun k => by unfold Q.virgationlaw09_ints.f Q.slices_Equal_int_int.f; rw [in_eq]) (eqI_ev a b hA.2.1)).rounds
  exact (Q.virgationlaw09_ints.calls k A c a B d b _ w hA hc hB hd hk).mono fun e w' h => ⟨h.1, by first | exact h.2 | exact h.2.below⟩
theorem AT2.cells {w W : World} {x y z s v : Value} (h : AT2 w W #[x, y, z] #[s, v]) : (W.cell? ⟨w.heap.size, 0, none⟩ = some x ∧ W.cell? ⟨w.heap.size, 1, none⟩ = some y ∧ W.cell? ⟨w.heap.size, 2, none⟩ = some z) ∧ (W.cell? ⟨w.heap.size + 1, 0, none⟩ = some s ∧ W.cell? ⟨w.heap.size + 1, 1, none⟩ = some v) :=
  ⟨box3_cells h.h1, box2_cells h.h2⟩
end Go.Proofs.YtbmcigakiibncaaGreatDoor.H
namespace Go.Proofs.YtbmcigakiibncaaGreatDoor.H
open Go.RowKit Go.Proofs.YtbmcigakiibncaaGreatDoorW.PrintWords Go.Proofs.YtbmcigakiibncaaGreatDoorW.PrintLast Go.Proofs.YtbmcigakiibncaaGreatDoorW.PrintMore
open Go.Proofs.YtbmcigakiibncaaGreatDoor.Q (S28 k28 z28 rd_T28 at_T28)
set_option linter.unusedVariables false
set_option linter.unusedSimpArgs false
mutual
def leastB : S28 → S28 → Bool
  | ⟨s, l⟩, ⟨s', l'⟩ => decide (s' = -1) || (decide (s = s') && leastBL l l')
def leastBL : List S28 → List S28 → Bool
  | [], _ => true
  | _ :: _, [] => true
  | a :: r, b :: r' => leastB a b && leastBL r r'
end
mutual
def wholeB : S28 → Bool
  | ⟨s, l⟩ => wholeBL l && decide (s ≠ -1)
def wholeBL : List S28 → Bool
  | [] => true
  | a :: r => wholeB a && wholeBL r
end
theorem overB_len {rk : List Int} {s : Int} {l : List S28} (h : overB rk ⟨s, l⟩ = true) (hs : s ≠ -1) : (l.length : Int) = rd rk s ∧ overL rk l = true ∧ 0 ≤ s := by
  rw [overB] at h
  simp only [Bool.or_eq_true, Bool.and_eq_true, decide_eq_true_eq] at h
  rcases h with ⟨h, _⟩ | ⟨⟨⟨h1, h2⟩, h3⟩, h4⟩
  · exact absurd h hs
  · exact ⟨h3, h4, h1⟩
theorem leastBL_drop {l l' : List S28} {j : Nat} (h : j < l.length) (h' : j < l'.length) : leastBL (l.drop j) (l'.drop j) = (leastB l[j] l'[j] && leastBL (l.drop (j + 1)) (l'.drop (j + 1))) := by
  rw [dropT h, dropT h', leastBL]
theorem least_ev (rk : List Int) (N : Nat) : ∀ a b : S28, nodes a ≤ N → N ≤ 20000 → overB rk a = true → overB rk b = true → Ev (fun k => Q.tree_least.f k a.f0 a.f1 b.f0 b.f1) (leastB a b) := by
  induction N with
  | zero => intro a b h; have := nodes_pos a; omega
  | succ N ih =>
    intro a b h hN ha hb
    obtain ⟨s, l⟩ := a
    obtain ⟨s', l'⟩ := b
    rw [nodes] at h
    have hll := lens_le (l := l)
    rw [leastB]
    by_cases h1 : s' = -1
    · rw [decide_eq_true h1, Bool.true_or]
      refine ev_end fun k => ?_
      simp only [Q.tree_least.f]
      rw [if_pos h1]
    · rw [decide_eq_false h1, Bool.false_or]
      by_cases h2 : s = s'
      · subst h2
        obtain ⟨e1, o1, _⟩ := overB_len ha h1
        obtain ⟨e2, o2, _⟩ := overB_len hb h1
        rw [decide_eq_true rfl, Bool.true_and]
        have loop : ∀ d j : Nat, l.length - j = d → j ≤ l.length → Ev (fun k => Q.tree_least.l0 k (l.length : Int) (j : Int) s l s l') (leastBL (l.drop j) (l'.drop j)) := by
          intro d
          induction d with
          | zero =>
            intro j hd hj
            refine ev_end fun k => ?_
            simp only [Q.tree_least.l0]
            rw [if_neg (by omega), List.drop_eq_nil_of_le (show l.length ≤ j by omega), leastBL]
          | succ d ihd =>
            intro j hd hj
            have hlt : j < l.length := by omega
            have hlt' : j < l'.length := by omega
            rw [leastBL_drop hlt hlt']
            have k1 := ih l[j] l'[j] (by have := nodes_mem (List.getElem_mem hlt); omega) (by omega) (overL_mem o1 (List.getElem_mem hlt)) (overL_mem o2 (List.getElem_mem hlt'))
            have k2 := ihd (j + 1) (by omega) (by omega)
            refine ev_next (f := fun k => (Q.tree_least.f k (l[j]).f0 (l[j]).f1 (l'[j]).f0 (l'[j]).f1).bind fun t => if t = true then Q.tree_least.l0 k (l.length : Int) ((j + 1 : Nat) : Int) s l s l' else some false) (Ev.bind k1 ?_) fun k => ?_
            · cases leastB l[j] l'[j] with
              | true => simp only [if_true, Bool.true_and]; exact k2
              | false => simp only [Bool.false_eq_true, if_false, Bool.false_and]; exact ev_end fun k => rfl
            · simp only [Q.tree_least.l0]
              rw [if_pos (by omega), if_pos (by omega), if_pos (by omega), if_pos (by omega), rdT_at hlt, rdT_at hlt', wrap_succ (by omega) (by omega)]
              rfl
        have e := loop l.length 0 (by omega) (by omega)
        rw [List.drop_zero, List.drop_zero] at e
        refine ev_next e fun k => ?_
        simp only [Q.tree_least.f]
        rw [if_neg h1, if_pos trivial]
        rfl
      · rw [decide_eq_false h2, Bool.false_and]
        refine ev_end fun k => ?_
        simp only [Q.tree_least.f]
        rw [if_neg h1, if_neg h2]
theorem whole_ev (N : Nat) : ∀ t : S28, nodes t ≤ N → N ≤ 20000 → Ev (fun k => Q.virgationlaw09_whole.f k t.f0 t.f1) (wholeB t) := by
  induction N with
  | zero => intro t h; have := nodes_pos t; omega
  | succ N ih =>
    intro t h hN
    obtain ⟨s, l⟩ := t
    rw [nodes] at h
    have hll := lens_le (l := l)
    have loop : ∀ d j : Nat, l.length - j = d → j ≤ l.length → Ev (fun k => Q.virgationlaw09_whole.l0 k l (l.length : Int) (j : Int) s l) (wholeBL (l.drop j) && decide (s ≠ -1)) := by
      intro d
      induction d with
      | zero =>
        intro j hd hj
        refine ev_end fun k => ?_
        simp only [Q.virgationlaw09_whole.l0]
        rw [if_neg (by omega), List.drop_eq_nil_of_le (by omega), wholeBL, Bool.true_and]
        congr 1
        by_cases h : s = -1
        · subst h; rfl
        · rw [decide_eq_true h]; simpa using h
      | succ d ihd =>
        intro j hd hj
        have hlt : j < l.length := by omega
        rw [dropT hlt, wholeBL, Bool.and_assoc]
        have e1 := ih l[j] (by have := nodes_mem (List.getElem_mem hlt); omega) (by omega)
        have e2 := ihd (j + 1) (by omega) (by omega)
        refine ev_next (f := fun k => (Q.virgationlaw09_whole.f k (l[j]).f0 (l[j]).f1).bind fun t => if t = true then Q.virgationlaw09_whole.l0 k l (l.length : Int) ((j + 1 : Nat) : Int) s l else some false) (Ev.bind e1 ?_) fun k => ?_
        · cases wholeB l[j] with
          | true => simp only [if_true, Bool.true_and]; exact e2
          | false => simp only [Bool.false_eq_true, if_false, Bool.false_and]; exact ev_end fun k => rfl
        · simp only [Q.virgationlaw09_whole.l0]
          rw [if_pos (by omega), if_pos (by omega), if_pos (by omega), rdT_at hlt, wrap_succ (by omega) (by omega)]
          rfl
    have e := loop l.length 0 (by omega) (by omega)
    rw [List.drop_zero] at e
    rw [wholeB]
    refine ev_next e fun k => ?_
    simp only [Q.virgationlaw09_whole.f]
    rfl
theorem kid_acc {M : Mv} {z : Bool} {l : List S28} {k s : Nat} (h : k < l.length) : ((accGL M z l).getD k (fun _ => false)) s = accG M z l[k] s := by
  rw [accGL_map, List.getD_eq_getElem?_getD, List.getElem?_map, List.getElem?_eq_getElem h]; rfl
theorem kid_acc_none {M : Mv} {z : Bool} {l : List S28} {k s : Nat} (h : l.length ≤ k) : ((accGL M z l).getD k (fun _ => false)) s = false := by
  rw [accGL_map, List.getD_eq_getElem?_getD, List.getElem?_eq_none (by rw [List.length_map]; exact h)]; rfl
theorem accG_no {M : Mv} {z : Bool} {s : Int} {l : List S28} (h : s ≠ -1) (q : Nat) : accG M z ⟨s, l⟩ q = (altsAt M q s.toNat).any (satA M z l) := by
  rw [accG, if_neg h]; rfl
theorem any_mono {α : Type} {p q : α → Bool} {l : List α} (h : ∀ x ∈ l, p x = true → q x = true) (hp : l.any p = true) : l.any q = true := by
  obtain ⟨x, hx, h1⟩ := List.any_eq_true.1 hp
  exact List.any_eq_true.2 ⟨x, hx, h x hx h1⟩
theorem sat_mono {M : Mv} {z z' : Bool} {l l' : List S28} {al : List Nd} (hl : l.length = l'.length) (h : ∀ (k : Nat) (hk : k < l.length) (hk' : k < l'.length) (s : Nat), accG M z l[k] s = true → accG M z' l'[k] s = true) (hp : satA M z l al = true) : satA M z' l' al = true := by
  unfold satA at hp ⊢
  rw [List.all_eq_true] at hp ⊢
  intro x hx
  have h1 := hp x hx
  rcases Nat.lt_or_ge x.f0.toNat l.length with hk | hk
  · rw [kid_acc hk] at h1
    rw [kid_acc (show x.f0.toNat < l'.length by omega)]
    exact h _ hk (by omega) _ h1
  · rw [kid_acc_none hk] at h1; cases h1
theorem sure_safe (M : Mv) (N : Nat) : ∀ (t : S28) (q : Nat), nodes t ≤ N → accG M false t q = true → accG M true t q = true := by
  induction N with
  | zero => intro t q h; have := nodes_pos t; omega
  | succ N ih =>
    intro t q h ha
    obtain ⟨s, l⟩ := t
    rw [nodes] at h
    by_cases hs : s = -1
    · subst hs; rw [accG, if_pos rfl]
    · rw [accG_no hs] at ha ⊢
      refine any_mono (fun al _ => sat_mono rfl fun k hk _ s => ih _ _ (by have := nodes_mem (List.getElem_mem hk); omega)) ha
theorem whole_acc (M : Mv) (N : Nat) : ∀ (t : S28) (q : Nat), nodes t ≤ N → wholeB t = true → accG M true t q = true → accG M false t q = true := by
  induction N with
  | zero => intro t q h; have := nodes_pos t; omega
  | succ N ih =>
    intro t q h hw ha
    obtain ⟨s, l⟩ := t
    rw [nodes] at h
    rw [wholeB, Bool.and_eq_true, decide_eq_true_eq] at hw
    have hwl : ∀ (l : List S28), wholeBL l = true → ∀ t ∈ l, wholeB t = true := by
      intro l
      induction l with
      | nil => intro _ t ht; cases ht
      | cons a r ihr =>
        intro hw t ht
        rw [wholeBL, Bool.and_eq_true] at hw
        rcases List.mem_cons.1 ht with rfl | ht
        · exact hw.1
        · exact ihr hw.2 t ht
    rw [accG_no hw.2] at ha ⊢
    refine any_mono (fun al _ => sat_mono rfl fun k hk _ s => ih _ _ (by have := nodes_mem (List.getElem_mem hk); omega) (hwl l hw.1 _ (List.getElem_mem hk))) ha
theorem leastBL_at : ∀ {l l' : List S28}, leastBL l l' = true → ∀ (k : Nat) (hk : k < l.length) (hk' : k < l'.length), leastB l[k] l'[k] = true
  | [], _, _, k, hk, _ => absurd hk (Nat.not_lt_zero _)
  | _ :: _, [], _, k, _, hk' => absurd hk' (Nat.not_lt_zero _)
  | a :: r, b :: r', h, 0, _, _ => by rw [leastBL, Bool.and_eq_true] at h; exact h.1
  | a :: r, b :: r', h, k + 1, hk, hk' => by
    rw [leastBL, Bool.and_eq_true] at h
    exact leastBL_at h.2 k (by simpa using hk) (by simpa using hk')
theorem least_acc (M : Mv) (rk : List Int) (N : Nat) : ∀ (a b : S28) (q : Nat), nodes a ≤ N → overB rk a = true → overB rk b = true → leastB a b = true → (accG M true a q = true → accG M true b q = true) ∧ (accG M false b q = true → accG M false a q = true) := by
  induction N with
  | zero => intro a b q h; have := nodes_pos a; omega
  | succ N ih =>
    intro a b q h ha hb hl
    obtain ⟨s, l⟩ := a
    obtain ⟨s', l'⟩ := b
    rw [nodes] at h
    rw [leastB, Bool.or_eq_true, Bool.and_eq_true, decide_eq_true_eq, decide_eq_true_eq] at hl
    by_cases h1 : s' = -1
    · subst h1
      refine ⟨fun _ => by rw [accG, if_pos rfl], fun hh => ?_⟩
      rw [accG, if_pos rfl] at hh; cases hh
    · obtain ⟨rfl, hk⟩ := hl.resolve_left h1
      obtain ⟨e1, o1, _⟩ := overB_len ha h1
      obtain ⟨e2, o2, _⟩ := overB_len hb h1
      have hlen : l.length = l'.length := by omega
      have key := fun (k : Nat) (hk1 : k < l.length) (hk2 : k < l'.length) (p : Nat) => ih l[k] l'[k] p (by have := nodes_mem (List.getElem_mem hk1); omega) (overL_mem o1 (List.getElem_mem hk1)) (overL_mem o2 (List.getElem_mem hk2)) (leastBL_at hk k hk1 hk2)
      rw [accG_no h1, accG_no h1, accG_no h1, accG_no h1]
      exact ⟨fun hh => any_mono (fun al _ => sat_mono hlen fun k hk1 hk2 p => (key k hk1 hk2 p).1) hh, fun hh => any_mono (fun al _ => sat_mono hlen.symm fun k hk1 hk2 p => (key k hk2 hk1 p).2) hh⟩
def withinB (a b : List Int) : Bool := a.all fun x => b.any fun y => x == y
theorem within_l1 (a b : List Int) (hb : b.length ≤ 9223372036854775807) (x : Int) (i : Nat) (r : Bool) (hi : i < a.length) (next : Ev (fun k => Q.virgationlaw09_within.l0 k b a (a.length : Int) (wrap64 ((i : Int) + 1))) r) (d : Nat) :
    ∀ (j : Nat) (th : Bool), b.length - j = d → j ≤ b.length → Ev (fun k => Q.virgationlaw09_within.l1 k b x th a (a.length : Int) (i : Int) b (b.length : Int) (j : Int)) ((th || (b.drop j).any fun y => x == y) && r) := by
  induction d with
  | zero =>
    intro j th hd hj
    rw [List.drop_eq_nil_of_le (by omega)]
    cases th with
    | true =>
      refine ev_next next fun k => ?_
      simp only [Q.virgationlaw09_within.l1]
      rw [if_neg (by omega), if_pos trivial]
    | false =>
      refine ev_end fun k => ?_
      simp only [Q.virgationlaw09_within.l1]
      rw [if_neg (by omega), if_neg (by simp)]; rfl
  | succ d ih =>
    intro j th hd hj
    have hlt : j < b.length := by omega
    have e : b.drop j = b.getD j 0 :: b.drop (j + 1) := by rw [List.drop_eq_getElem_cons hlt]; simp [List.getD_eq_getElem?_getD, hlt]
    rw [e, List.any_cons]
    cases th with
    | true =>
      refine ev_next (ih (j + 1) true (by omega) (by omega)) fun k => ?_
      simp only [Q.virgationlaw09_within.l1]
      rw [if_pos (by omega), if_pos (by omega), if_pos (by omega), if_pos trivial, wrap_succ (by omega) (by omega)]
      rfl
    | false =>
      rw [Bool.false_or]
      refine ev_next (ih (j + 1) (x == b.getD j 0) (by omega) (by omega)) fun k => ?_
      simp only [Q.virgationlaw09_within.l1]
      rw [if_pos (by omega), if_pos (by omega), if_pos (by omega), if_neg (by simp), wrap_succ (by omega) (by omega), rdI_at]
      rfl
theorem within_ev (a b : List Int) (ha : a.length ≤ 9223372036854775807) (hb : b.length ≤ 9223372036854775807) : Ev (fun k => Q.virgationlaw09_within.f k a b) (withinB a b) := by
  have loop : ∀ d i : Nat, a.length - i = d → i ≤ a.length → Ev (fun k => Q.virgationlaw09_within.l0 k b a (a.length : Int) (i : Int)) ((a.drop i).all fun x => b.any fun y => x == y) := by
    intro d
    induction d with
    | zero =>
      intro i hd hi
      refine ev_end fun k => ?_
      simp only [Q.virgationlaw09_within.l0]
      rw [if_neg (by omega), List.drop_eq_nil_of_le (by omega)]; rfl
    | succ d ih =>
      intro i hd hi
      have hlt : i < a.length := by omega
      have e : a.drop i = a.getD i 0 :: a.drop (i + 1) := by rw [List.drop_eq_getElem_cons hlt]; simp [List.getD_eq_getElem?_getD, hlt]
      rw [e, List.all_cons]
      have h2 := ih (i + 1) (by omega) (by omega)
      rw [show ((i + 1 : Nat) : Int) = wrap64 ((i : Int) + 1) from (wrap_succ (i := (i : Int)) (by omega) (by omega)).symm] at h2
      have h1 := within_l1 a b hb (a.getD i 0) i _ hlt h2 _ 0 false rfl (Nat.zero_le _)
      rw [List.drop_zero, Bool.false_or] at h1
      refine ev_next h1 fun k => ?_
      simp only [Q.virgationlaw09_within.l0]
      rw [if_pos (by omega), if_pos (by omega), if_pos (by omega), rdI_at]
      rfl
  have h := loop a.length 0 (by omega) (by omega)
  rw [List.drop_zero] at h
  exact h
theorem mem_stL {n : Nat} {p : Nat → Bool} {x : Int} : x ∈ stL n p ↔ ∃ i : Nat, i < n ∧ p i = true ∧ x = (i : Int) := by
  unfold stL
  rw [List.mem_map]
  constructor
  · rintro ⟨i, hi, rfl⟩
    obtain ⟨h1, h2⟩ := List.mem_filter.1 hi
    exact ⟨i, List.mem_range.1 h1, h2, rfl⟩
  · rintro ⟨i, h1, h2, rfl⟩
    exact ⟨i, List.mem_filter.2 ⟨List.mem_range.2 h1, h2⟩, rfl⟩
theorem within_stL {n : Nat} {p p' : Nat → Bool} (h : ∀ i, p i = true → p' i = true) : withinB (stL n p) (stL n p') = true := by
  unfold withinB
  rw [List.all_eq_true]
  intro x hx
  obtain ⟨i, h1, h2, rfl⟩ := mem_stL.1 hx
  exact List.any_eq_true.2 ⟨(i : Int), mem_stL.2 ⟨i, h1, h i h2, rfl⟩, by simp⟩
end Go.Proofs.YtbmcigakiibncaaGreatDoor.H
namespace Go.Proofs.YtbmcigakiibncaaGreatDoor.H
open Go.RowKit Go.Proofs.YtbmcigakiibncaaGreatDoorW.PrintWords Go.Proofs.YtbmcigakiibncaaGreatDoorW.PrintLast Go.Proofs.YtbmcigakiibncaaGreatDoorW.PrintMore
open Go.Proofs.YtbmcigakiibncaaGreatDoor.Q (S28 k28 z28 rd_T28 at_T28)
set_option linter.unusedVariables false
set_option linter.unusedSimpArgs false
theorem C_twoT {w : World} {g : Nat} {t u : S28} {A B : Option Addr} {c d : Nat} (h : w.heap[g]? = some (.cells #[.int .i64 t.f0, .slice A t.f1.length c, .int .i64 u.f0, .slice B u.f1.length d] 28 (0, 0)))
    (hc : t.f1.length ≤ c) (hd : u.f1.length ≤ d) (hC : Kd.C k28 w A t.f1.length t.f1) (hD : Kd.C k28 w B u.f1.length u.f1) : Kd.C k28 w (some ⟨g, 0, none⟩) 2 [t, u] := by
  refine ⟨rfl, by simp, fun _ => ⟨_, rfl, fun j p hj => ?_⟩⟩
  have hj2 : j = 0 ∨ j = 1 := by
    have := (List.getElem?_eq_some_iff.1 hj).1
    simp at this; omega
  rcases hj2 with rfl | rfl
  · obtain rfl : t = p := by simpa using hj
    refine ⟨[.int .i64 t.f0, .slice A t.f1.length c], rfl, Q.k28_mk w t hc hC, fun i v hv => ?_⟩
    rw [show (Addr.add ⟨g, 0, none⟩ (0 * k28.sz + i)) = ⟨g, i, none⟩ by rw [Nat.zero_mul, Nat.zero_add]; simp [Addr.add]; exact fun e => e.symm, blk_cell h i]
    match i, hv with
    | 0, hv => simpa using hv
    | 1, hv => simpa using hv
    | i + 2, hv => simp at hv
  · obtain rfl : u = p := by simpa using hj
    refine ⟨[.int .i64 u.f0, .slice B u.f1.length d], rfl, Q.k28_mk w u hd hD, fun i v hv => ?_⟩
    rw [show (Addr.add ⟨g, 0, none⟩ (1 * k28.sz + i)) = ⟨g, 2 + i, none⟩ by rw [Nat.one_mul, show k28.sz = 2 from rfl]; simp [Addr.add], blk_cell h (2 + i)]
    match i, hv with
    | 0, hv => simpa using hv
    | 1, hv => simpa using hv
    | i + 2, hv => simp at hv
set_option maxHeartbeats 4000000 in
set_option maxRecDepth 100000 in
theorem checked2_calls (rk : List Int) (t u : S28) (A1 : Option Addr) (c1 : Nat) (B : Option Addr) (w : World) (hr : Kd.C (Kd.int .i64) w A1 rk.length rk) (hc1 : rk.length ≤ c1)
    (hB : Kd.C k28 w B 2 [t, u]) (h1 : ranksB rk = true) (h2 : treeOk rk t = true) (h3 : treeOk rk u = true) :
    Calls Tryz.prog 86 #[.slice A1 rk.length c1, .slice B 2 2] w fun E w' => E = .returned (.int .i64 0) ∧ Below w.heap.size w w' := by
  have HR := Aside0.mk (ranks_calls A1 c1 rk w hr hc1)
  have HRK := Aside0.mk h1
  rw [h1] at HR
  have HT := Aside0.mk fun (x : S28) (hx : treeOk rk x = true) (A : Option Addr) (c : Nat) W (hW : Below w.heap.size w W) (hC : Kd.C k28 W A x.f1.length x.f1) (hc : x.f1.length ≤ c) => (show Calls Tryz.prog 40 #[.slice A1 rk.length c1, .agg #[.int .i64 x.f0, .slice A x.f1.length c]] W fun E w' => E = .returned (.int .i64 0) ∧ Below W.heap.size W w' from by
    have q := tcheckG_calls rk x A1 c1 A c W (Kd.C_below hr hW) hc1 hC hc
    rw [show tcheckV rk x = 0 by unfold tcheckV; rw [h1, hx]; rfl] at q
    exact q)
  have HC := Aside0.mk hB
  have HOK := Aside0.mk (And.intro h2 h3)
  clear hr hB h1 h2 h3
  go_enter Tryz.func86, Tryz.ntmps86
  go_wp2_with fail
  refine (HR.out).mono ?_
  rintro E w2 ⟨rfl, hb⟩
  have HB2 := Aside0.mk hb
  clear hb HR
  go_wp2
  go_loopg [13] 2 (fun gg v13 wi => ∃ j : Nat, j ≤ 2 ∧ 2 - j ≤ gg ∧ v13 = .int .i64 j ∧ Aside0 (Below w.heap.size w wi))
  case atStart => exact ⟨0, by omega, by omega, rfl, HB2⟩
  case round =>
    clear HB2
    obtain ⟨j, hj, hgg, rfl, HB⟩ := hrel
    by_cases hlt : j < 2
    · have hltz : (j : Int) < 2 := by omega
      have HLT := Aside0.mk hlt
      obtain ⟨ad, A3, c3, e, hx0, hx1, hl1, hC1⟩ := at_T28 HC.out (j : Int) (by omega) (by simpa using hltz)
      subst e
      have HX := Aside0.mk (show treeOk rk (rd_T28 [t, u] (j : Int)) = true from by
        have : j = 0 ∨ j = 1 := by omega
        rcases this with rfl | rfl
        · exact (HOK.out).1
        · exact (HOK.out).2)
      rw [Int.toNat_natCast] at hx0 hx1
      replace hx0 := pw_cell_below HB.out hx0
      replace hx1 := pw_cell_below HB.out hx1
      generalize rd_T28 [t, u] (j : Int) = x at *
      have HC1 := Aside0.mk (Kd.C_below hC1 HB.out)
      have HL1 := Aside0.mk hl1
      clear hC1 hl1
      go_upto_region 6 with (fail)
      have ha := below_alloc (Below.refl wr.heap.size wr) (.cells #[.int .i64 x.f0, .slice A3 x.f1.length c3] 28)
      have HB5 := Aside0.mk (below_then HB.out (HB.out).size ha)
      have HC5 := Aside0.mk (Kd.C_below HC1.out ha)
      have HX5 := Aside0.mk (blk_new wr (.cells #[.int .i64 x.f0, .slice A3 x.f1.length c3] 28))
      clear ha hx0 hx1 HB HC1
      generalize (wr.alloc (.cells #[.int .i64 x.f0, .slice A3 x.f1.length c3] 28)) = w5 at *
      generalize wr.heap.size = b7 at *
      have hb0 : w5.cell? ⟨b7, 0, none⟩ = some (.int .i64 x.f0) := (blk_cell HX5.out 0).trans rfl
      have hb1 : w5.cell? ⟨b7, 1, none⟩ = some (.slice A3 x.f1.length c3) := (blk_cell HX5.out 1).trans rfl
      go_wp2_with fail
      refine (HT.out x HX.out A3 c3 w5 HB5.out HC5.out HL1.out).mono ?_
      rintro E w6 ⟨rfl, hb⟩
      have HB6 := Aside0.mk (below_then HB5.out (HB5.out).size hb)
      clear hb hb0 hb1 HB5 HC5 HX5
      go_wp2
      go_roundg (2 - (j + 1))
      case measure => have := HLT.out; omega
      case rel => exact ⟨j + 1, HLT.out, Nat.le_refl _, rfl, HB6⟩
    · obtain rfl : j = 2 := by omega
      clear hj hgg hlt
      go_wp2
      go_ret
      exact ⟨rfl, HB.out⟩
end Go.Proofs.YtbmcigakiibncaaGreatDoor.H
namespace Go.Proofs.YtbmcigakiibncaaGreatDoor.H
open Go.RowKit Go.Proofs.YtbmcigakiibncaaGreatDoorW.PrintWords Go.Proofs.YtbmcigakiibncaaGreatDoorW.PrintLast Go.Proofs.YtbmcigakiibncaaGreatDoorW.PrintMore
open Go.Proofs.YtbmcigakiibncaaGreatDoor.Q (S28 k28 z28 rd_T28 at_T28)
set_option linter.unusedVariables false
set_option linter.unusedSimpArgs false
theorem states_as {rk : List Int} {st : Int} {M : Mv} {mode : Int} {t : S28} {l : List Int} (h1 : auB rk st M = true) (h2 : treeOk rk t = true) (h3 : mode = 0 ∨ mode = 1) (hl : stL M.length (accG M (decide (mode = 0)) t) = l)
    (A1 : Option Addr) (c1 : Nat) (A2 : Option Addr) (c2 : Nat) (A : Option Addr) (c : Nat) (w : World)
    (hr : Kd.C (Kd.int .i64) w A1 rk.length rk) (hc1 : rk.length ≤ c1) (hM : Kd.C kA3 w A2 M.length M) (hC : Kd.C k28 w A t.f1.length t.f1) (hc : t.f1.length ≤ c) (hT : Tab w) :
    Calls Tryz.prog 13 #[.agg #[.slice A1 rk.length c1, .int .i64 st, .slice A2 M.length c2], .int .i64 mode, .agg #[.int .i64 t.f0, .slice A t.f1.length c]] w fun E w' => ∃ B d, E = .returned (.tuple #[.slice B l.length d, .int .i64 0]) ∧ l.length ≤ d ∧ Kd.C (Kd.int .i64) w' B l.length l ∧ Below w.heap.size w w' := by
  have q := statesE_calls rk M st mode t A1 c1 A2 c2 A c w hr hc1 hM hC hc hT
  have he : stErr rk st M mode t = 0 := by unfold stErr; rw [h1, h2, if_pos rfl, if_pos rfl, if_pos h3]
  have hv : stV rk st M mode t = l := by unfold stV; rw [if_pos he]; exact hl
  unfold StE at q
  rw [he, hv] at q
  exact q
end Go.Proofs.YtbmcigakiibncaaGreatDoor.H
namespace Go.Proofs.YtbmcigakiibncaaGreatDoor.H
open Go.RowKit Go.Proofs.YtbmcigakiibncaaGreatDoorW.PrintWords Go.Proofs.YtbmcigakiibncaaGreatDoorW.PrintLast Go.Proofs.YtbmcigakiibncaaGreatDoorW.PrintMore
open Go.Proofs.YtbmcigakiibncaaGreatDoor.Q (S28 k28 z28 rd_T28 at_T28)
set_option linter.unusedVariables false
set_option linter.unusedSimpArgs false
theorem drawn0_below {w w' : World} (h : Drawn0 w w') : Below w.heap.size w w' := by
  first | exact h.below | exact h
theorem overB_of {rk : List Int} {t : S28} (h : treeOk rk t = true) : overB rk t = true := by
  unfold treeOk at h
  simp only [Bool.and_eq_true] at h
  exact h.2
theorem nodes_of {rk : List Int} {t : S28} (h : treeOk rk t = true) : nodes t ≤ 20000 := by
  unfold treeOk at h
  simp only [Bool.and_eq_true, decide_eq_true_eq] at h
  exact h.1.1
theorem least_calls (rk : List Int) (t u : S28) (A : Option Addr) (c : Nat) (B : Option Addr) (d : Nat) (w : World) (h2 : treeOk rk t = true) (h3 : treeOk rk u = true)
    (hC : Kd.C k28 w A t.f1.length t.f1) (hc : t.f1.length ≤ c) (hD : Kd.C k28 w B u.f1.length u.f1) (hd : u.f1.length ≤ d) :
    Calls Tryz.prog 87 #[.agg #[.int .i64 t.f0, .slice A t.f1.length c], .agg #[.int .i64 u.f0, .slice B u.f1.length d]] w fun E w' => E = .returned (.bool (leastB t u)) ∧ Below w.heap.size w w' := by
  obtain ⟨k, hk⟩ := (least_ev rk _ t u (Nat.le_refl _) (nodes_of h2) (overB_of h2) (overB_of h3)).rounds
  exact Q.tree_least.calls k t.f0 A c t.f1 u.f0 B d u.f1 _ w hC hc hD hd hk
theorem whole_calls (rk : List Int) (t : S28) (A : Option Addr) (c : Nat) (w : World) (h2 : treeOk rk t = true) (hC : Kd.C k28 w A t.f1.length t.f1) (hc : t.f1.length ≤ c) :
    Calls Tryz.prog 34 #[.agg #[.int .i64 t.f0, .slice A t.f1.length c]] w fun E w' => E = .returned (.bool (wholeB t)) ∧ Below w.heap.size w w' := by
  obtain ⟨k, hk⟩ := (whole_ev _ t (Nat.le_refl _) (nodes_of h2)).rounds
  exact Q.virgationlaw09_whole.calls k t.f0 A c t.f1 _ w hC hc hk
theorem within_calls (a b : List Int) (A : Option Addr) (c : Nat) (B : Option Addr) (d : Nat) (w : World) (hA : Kd.C (Kd.int .i64) w A a.length a) (hc : a.length ≤ c) (hB : Kd.C (Kd.int .i64) w B b.length b) (hd : b.length ≤ d) :
    Calls Tryz.prog 33 #[.slice A a.length c, .slice B b.length d] w fun E w' => E = .returned (.bool (withinB a b)) ∧ Below w.heap.size w w' := by
  obtain ⟨k, hk⟩ := (within_ev a b hA.2.1 hB.2.1).rounds
  exact (Q.virgationlaw09_within.calls k A c a B d b _ w hA hc hB hd hk).mono fun e w' h => ⟨h.1, drawn0_below h.2⟩
theorem box4_of {W : World} {b : Nat} {x y : Value} (h : W.heap[b]? = some (.cells #[x, y] 28 (0, 0))) : W.cell? ⟨b, 0, none⟩ = some x ∧ W.cell? ⟨b, 1, none⟩ = some y := ⟨(blk_cell h 0).trans rfl, (blk_cell h 1).trans rfl⟩
set_option maxHeartbeats 4000000 in
set_option maxRecDepth 100000 in
theorem atLeast_calls (rk : List Int) (t u : S28) (A1 : Option Addr) (c1 : Nat) (A : Option Addr) (c : Nat) (B : Option Addr) (d : Nat) (w : World) (hr : Kd.C (Kd.int .i64) w A1 rk.length rk) (hc1 : rk.length ≤ c1)
    (h1 : ranksB rk = true) (h2 : treeOk rk t = true) (h3 : treeOk rk u = true)
    (hC : Kd.C k28 w A t.f1.length t.f1) (hc : t.f1.length ≤ c) (hD : Kd.C k28 w B u.f1.length u.f1) (hd : u.f1.length ≤ d) :
    Calls Tryz.prog 35 #[.slice A1 rk.length c1, .agg #[.int .i64 t.f0, .slice A t.f1.length c], .agg #[.int .i64 u.f0, .slice B u.f1.length d]] w fun E w' => E = .returned (.tuple #[.bool (leastB t u), .int .i64 0]) ∧ Below w.heap.size w w' := by
  have HL := Aside0.mk fun W (hW : Below w.heap.size w W) => least_calls rk t u A c B d W h2 h3 (Kd.C_below hC hW) hc (Kd.C_below hD hW) hd
  have hb2 := below_alloc (below_alloc (Below.refl w.heap.size w) (.cells #[.int .i64 t.f0, .slice A t.f1.length c] 28)) (.cells #[.int .i64 u.f0, .slice B u.f1.length d] 28)
  have HX1 := Aside0.mk (blk_alloc (blk_new w (.cells #[.int .i64 t.f0, .slice A t.f1.length c] 28)) (.cells #[.int .i64 u.f0, .slice B u.f1.length d] 28))
  have HX2 := Aside0.mk (blk_at2 w (.cells #[.int .i64 t.f0, .slice A t.f1.length c] 28) (.cells #[.int .i64 u.f0, .slice B u.f1.length d] 28))
  have HB := Aside0.mk hb2
  have HCH := Aside0.mk fun (W : World) (hW : Below w.heap.size w W) (hB : Kd.C k28 W (some ⟨W.heap.size - 1, 0, none⟩) 2 [t, u]) => checked2_calls rk t u A1 c1 _ W (Kd.C_below hr hW) hc1 hB h1 h2 h3
  have HTW := Aside0.mk fun (W : World) (hW : Below w.heap.size w W) => C_twoT (w := W.alloc (.cells #[.int .i64 t.f0, .slice A t.f1.length c, .int .i64 u.f0, .slice B u.f1.length d] 28)) (blk_new W _) hc hd (Kd.C_below hC (below_alloc hW _)) (Kd.C_below hD (below_alloc hW _))
  clear hr hb2 hC hD h1 h2 h3 hc hd
  go_enter Tryz.func35, Tryz.ntmps35
  go_upto_region 1 with (fail)
  generalize ((w.alloc (.cells #[.int .i64 t.f0, .slice A t.f1.length c] 28)).alloc (.cells #[.int .i64 u.f0, .slice B u.f1.length d] 28)) = W1 at *
  obtain ⟨k0, k1⟩ := box4_of HX1.out
  obtain ⟨k2, k3⟩ := box4_of HX2.out
  go_wp2_with fail
  have HB2 := Aside0.mk (below_alloc HB.out (.cells #[.int .i64 t.f0, .slice A t.f1.length c, .int .i64 u.f0, .slice B u.f1.length d] 28))
  have hcall := HCH.out _ HB2.out (by
    have := HTW.out W1 HB.out
    rw [show (W1.alloc (.cells #[.int .i64 t.f0, .slice A t.f1.length c, .int .i64 u.f0, .slice B u.f1.length d] 28)).heap.size - 1 = W1.heap.size by simp]
    exact this)
  rw [show (W1.alloc (.cells #[.int .i64 t.f0, .slice A t.f1.length c, .int .i64 u.f0, .slice B u.f1.length d] 28)).heap.size - 1 = W1.heap.size by simp] at hcall
  refine hcall.mono ?_
  clear hcall
  rintro E w2 ⟨rfl, hb⟩
  have ha := below_alloc (Below.refl W1.heap.size W1) (.cells #[.int .i64 t.f0, .slice A t.f1.length c, .int .i64 u.f0, .slice B u.f1.length d] 28)
  have hb3 := below_then ha ha.size hb
  have HX1' := Aside0.mk (blk_below HX1.out hb3)
  have HX2' := Aside0.mk (blk_below HX2.out hb3)
  have HB3 := Aside0.mk (below_then HB.out (HB.out).size hb3)
  clear hb ha hb3 k0 k1 k2 k3
  obtain ⟨k0, k1⟩ := box4_of HX1'.out
  obtain ⟨k2, k3⟩ := box4_of HX2'.out
  go_wp2_with fail
  refine (HL.out _ HB3.out).mono ?_
  rintro E w4 ⟨rfl, hb⟩
  have HB4 := Aside0.mk (below_then HB3.out (HB3.out).size hb)
  clear hb k0 k1 k2 k3
  go_wp2
  go_ret2
  exact ⟨rfl, HB4.out⟩
structure AT3 (w W : World) (a t u : Array Value) : Prop where
  hb : Below w.heap.size w W
  h1 : W.heap[w.heap.size]? = some (.cells a 25 (0, 0))
  h2 : W.heap[w.heap.size + 1]? = some (.cells t 28 (0, 0))
  h3 : W.heap[w.heap.size + 2]? = some (.cells u 28 (0, 0))
theorem AT3.below {w W W1 : World} {a t u : Array Value} (h : AT3 w W a t u) (hb : Below W.heap.size W W1) : AT3 w W1 a t u :=
  ⟨below_then h.hb h.hb.size hb, blk_below h.h1 hb, blk_below h.h2 hb, blk_below h.h3 hb⟩
theorem AT3.start (w : World) (a t u : Array Value) : AT3 w (((w.alloc (.cells a 25)).alloc (.cells t 28)).alloc (.cells u 28)) a t u := by
  refine ⟨below_alloc (below_alloc (below_alloc (Below.refl w.heap.size w) _) _) _, blk_alloc (blk_alloc (blk_new w _) _) _, blk_alloc (blk_at2 w _ _) _, ?_⟩
  have h := blk_new ((w.alloc (.cells a 25)).alloc (.cells t 28)) (.cells u 28)
  have e : ((w.alloc (.cells a 25)).alloc (.cells t 28)).heap.size = w.heap.size + 2 := by simp
  rw [e] at h
  exact h
theorem AT3.cells {w W : World} {x y z s v s' v' : Value} (h : AT3 w W #[x, y, z] #[s, v] #[s', v']) : (W.cell? ⟨w.heap.size, 0, none⟩ = some x ∧ W.cell? ⟨w.heap.size, 1, none⟩ = some y ∧ W.cell? ⟨w.heap.size, 2, none⟩ = some z) ∧ (W.cell? ⟨w.heap.size + 1, 0, none⟩ = some s ∧ W.cell? ⟨w.heap.size + 1, 1, none⟩ = some v) ∧ (W.cell? ⟨w.heap.size + 2, 0, none⟩ = some s' ∧ W.cell? ⟨w.heap.size + 2, 1, none⟩ = some v') :=
  ⟨box3_of h.h1, box2_of h.h2, box2_of h.h3⟩
set_option maxHeartbeats 16000000 in
set_option maxRecDepth 100000 in
theorem autoParts_calls (rk : List Int) (M : Mv) (st : Int) (A1 : Option Addr) (c1 : Nat) (A2 : Option Addr) (c2 : Nat) (t : S28) (A : Option Addr) (c : Nat) (u : S28) (B : Option Addr) (d : Nat) (w : World)
    (hr : Kd.C (Kd.int .i64) w A1 rk.length rk) (hc1 : rk.length ≤ c1) (hM : Kd.C kA3 w A2 M.length M) (hc2 : M.length ≤ c2) (hC : Kd.C k28 w A t.f1.length t.f1) (hc : t.f1.length ≤ c) (hD : Kd.C k28 w B u.f1.length u.f1) (hd : u.f1.length ≤ d) (hm : MX w) (ht : TabD w) :
    Calls Tryz.prog 11 #[.agg #[.slice A1 rk.length c1, .int .i64 st, .slice A2 M.length c2], .agg #[.int .i64 t.f0, .slice A t.f1.length c], .agg #[.int .i64 u.f0, .slice B u.f1.length d]] w fun E w' => E = .returned (.bool true) ∧ Below w.heap.size w w' := by
  have HI := Aside0.mk fun W (hW : Below w.heap.size w W) => isA_calls rk M st A1 c1 A2 c2 W (Kd.C_below hr hW) hc1 (Kd.C_below hM hW) hc2
  have HTI := Aside0.mk fun W (hW : Below w.heap.size w W) => rtis_calls rk t A1 c1 A c W (Kd.C_below hr hW) hc1 (Kd.C_below hC hW) hc
  have HUI := Aside0.mk fun W (hW : Below w.heap.size w W) => rtis_calls rk u A1 c1 B d W (Kd.C_below hr hW) hc1 (Kd.C_below hD hW) hd
  have HSA := Aside0.mk fun (h1 : auB rk st M = true) (h2 : treeOk rk t = true) (mode : Int) (h3 : mode = 0 ∨ mode = 1) (l : List Int) (hl : stL M.length (accG M (decide (mode = 0)) t) = l) W (hW : Below w.heap.size w W) => states_as h1 h2 h3 hl A1 c1 A2 c2 A c W (Kd.C_below hr hW) hc1 (Kd.C_below hM hW) (Kd.C_below hC hW) hc (ht.below hW).tab
  have HSU := Aside0.mk fun (h1 : auB rk st M = true) (h2 : treeOk rk u = true) (mode : Int) (h3 : mode = 0 ∨ mode = 1) (l : List Int) (hl : stL M.length (accG M (decide (mode = 0)) u) = l) W (hW : Below w.heap.size w W) => states_as h1 h2 h3 hl A1 c1 A2 c2 B d W (Kd.C_below hr hW) hc1 (Kd.C_below hM hW) (Kd.C_below hD hW) hd (ht.below hW).tab
  have HWH := Aside0.mk fun (h2 : treeOk rk t = true) W (hW : Below w.heap.size w W) => whole_calls rk t A c W h2 (Kd.C_below hC hW) hc
  have HAT := Aside0.mk fun (h1 : auB rk st M = true) (h2 : treeOk rk t = true) (h3 : treeOk rk u = true) W (hW : Below w.heap.size w W) => atLeast_calls rk t u A1 c1 A c B d W (Kd.C_below hr hW) hc1 (mvOk_of h1).2.1 h2 h3 (Kd.C_below hC hW) hc (Kd.C_below hD hW) hd
  have HAL := Aside0.mk fun W (hW : Below w.heap.size w W) => alive_calls W (MX.below hm hW) (ht.below hW)
  have HS := Aside0.mk (AT3.start w #[.slice A1 rk.length c1, .int .i64 st, .slice A2 M.length c2] #[.int .i64 t.f0, .slice A t.f1.length c] #[.int .i64 u.f0, .slice B u.f1.length d])
  clear hr hc1 hM hC hc hc2 hD hd hm ht
  go_enter Tryz.func11, Tryz.ntmps11
  go_upto_region 1 with (fail)
  generalize (((w.alloc (.cells #[.slice A1 rk.length c1, .int .i64 st, .slice A2 M.length c2] 25)).alloc (.cells #[.int .i64 t.f0, .slice A t.f1.length c] 28)).alloc (.cells #[.int .i64 u.f0, .slice B u.f1.length d] 28)) = W1 at *
  obtain ⟨⟨k0, k1, k2⟩, ⟨k3, k4⟩, ⟨k5, k6⟩⟩ := (HS.out).cells
  go_wp2_with fail
  refine (HI.out _ (HS.out).hb).mono ?_
  rintro E W2 ⟨rfl, hb⟩
  have HS2 := Aside0.mk ((HS.out).below hb)
  clear hb HS HI k0 k1 k2 k3 k4 k5 k6
  obtain ⟨⟨k0, k1, k2⟩, ⟨k3, k4⟩, ⟨k5, k6⟩⟩ := (HS2.out).cells
  cases hau : auB rk st M with
  | false =>
    clear hau
    go_wp2_with fail
    refine (HAL.out _ (HS2.out).hb).mono ?_
    rintro E W3 ⟨rfl, hb⟩
    have HS3 := Aside0.mk ((HS2.out).below hb)
    clear hb
    go_wp2
    go_ret
    exact ⟨rfl, (HS3.out).hb⟩
  | true =>
  have HAU := Aside0.mk hau
  clear hau
  go_wp2_with fail
  refine (HTI.out _ (HS2.out).hb).mono ?_
  rintro E W3 ⟨rfl, hb⟩
  have HS3 := Aside0.mk ((HS2.out).below hb)
  clear hb HS2 HTI k0 k1 k2 k3 k4 k5 k6
  obtain ⟨⟨k0, k1, k2⟩, ⟨k3, k4⟩, ⟨k5, k6⟩⟩ := (HS3.out).cells
  cases hto : treeOk rk t with
  | false =>
    clear hto
    go_wp2_with fail
    refine (HAL.out _ (HS3.out).hb).mono ?_
    rintro E W4 ⟨rfl, hb⟩
    have HS4 := Aside0.mk ((HS3.out).below hb)
    clear hb
    go_wp2
    go_ret
    exact ⟨rfl, (HS4.out).hb⟩
  | true =>
  have HTO := Aside0.mk hto
  clear hto
  go_wp2_with fail
  refine (HUI.out _ (HS3.out).hb).mono ?_
  rintro E W4 ⟨rfl, hb⟩
  have HS4 := Aside0.mk ((HS3.out).below hb)
  clear hb HS3 HUI k0 k1 k2 k3 k4 k5 k6
  obtain ⟨⟨k0, k1, k2⟩, ⟨k3, k4⟩, ⟨k5, k6⟩⟩ := (HS4.out).cells
  cases huo : treeOk rk u with
  | false =>
    clear huo
    go_wp2_with fail
    refine (HAL.out _ (HS4.out).hb).mono ?_
    rintro E W5 ⟨rfl, hb⟩
    have HS5 := Aside0.mk ((HS4.out).below hb)
    clear hb
    go_wp2
    go_ret
    exact ⟨rfl, (HS5.out).hb⟩
  | true =>
  have HUO := Aside0.mk huo
  clear huo
  -- the plain law
  have HP1 := Aside0.mk (show withinB (stL M.length (accG M (decide ((1 : Int) = 0)) t)) (stL M.length (accG M (decide ((0 : Int) = 0)) t)) = true from within_stL fun q hq => sure_safe M _ t q (Nat.le_refl _) hq)
  have HP2 := Aside0.mk (show wholeB t = true → stL M.length (accG M (decide ((1 : Int) = 0)) t) = stL M.length (accG M (decide ((0 : Int) = 0)) t) from fun hw => by
    unfold stL
    congr 1
    exact List.filter_congr fun q hq => by
      rw [Bool.eq_iff_iff]
      exact ⟨fun h => sure_safe M _ t q (Nat.le_refl _) h, fun h => whole_acc M _ t q (Nat.le_refl _) hw h⟩)
  have HP3 := Aside0.mk (show leastB t u = true → withinB (stL M.length (accG M (decide ((0 : Int) = 0)) t)) (stL M.length (accG M (decide ((0 : Int) = 0)) u)) = true ∧ withinB (stL M.length (accG M (decide ((1 : Int) = 0)) u)) (stL M.length (accG M (decide ((1 : Int) = 0)) t)) = true from fun hl =>
    ⟨within_stL fun q hq => (least_acc M rk _ t u q (Nat.le_refl _) (overB_of HTO.out) (overB_of HUO.out) hl).1 hq, within_stL fun q hq => (least_acc M rk _ t u q (Nat.le_refl _) (overB_of HTO.out) (overB_of HUO.out) hl).2 hq⟩)
  have HA0 := Aside0.mk (HSA.out HAU.out HTO.out 0 (.inl rfl) _ rfl)
  have HA1 := Aside0.mk (HSA.out HAU.out HTO.out 1 (.inr rfl) _ rfl)
  have HU0 := Aside0.mk (HSU.out HAU.out HUO.out 0 (.inl rfl) _ rfl)
  have HU1 := Aside0.mk (HSU.out HAU.out HUO.out 1 (.inr rfl) _ rfl)
  have HATC := Aside0.mk (HAT.out HAU.out HTO.out HUO.out)
  have HWC := Aside0.mk (HWH.out HTO.out)
  clear HSA HSU HAT HWH
  generalize stL M.length (accG M (decide ((0 : Int) = 0)) t) = safe at *
  generalize stL M.length (accG M (decide ((1 : Int) = 0)) t) = sure at *
  generalize stL M.length (accG M (decide ((0 : Int) = 0)) u) = less at *
  generalize stL M.length (accG M (decide ((1 : Int) = 0)) u) = lst at *
  generalize leastB t u = above at *
  generalize wholeB t = wh at *
  go_wp2_with fail
  refine (HA0.out _ (HS4.out).hb).mono ?_
  rintro E W5 ⟨E1, e1, rfl, hl1, hC1, hb⟩
  have HS5 := Aside0.mk ((HS4.out).below hb)
  have HC1 := Aside0.mk hC1
  have HL1 := Aside0.mk hl1
  clear hb hC1 hl1 HS4 HA0 k0 k1 k2 k3 k4 k5 k6
  obtain ⟨⟨k0, k1, k2⟩, ⟨k3, k4⟩, ⟨k5, k6⟩⟩ := (HS5.out).cells
  go_wp2_with fail
  refine (HA1.out _ (HS5.out).hb).mono ?_
  rintro E W6 ⟨E2, e2, rfl, hl2, hC2, hb⟩
  have HS6 := Aside0.mk ((HS5.out).below hb)
  have HC1b := Aside0.mk (Kd.C_below HC1.out hb)
  have HC2 := Aside0.mk hC2
  have HL2 := Aside0.mk hl2
  clear hb hC2 hl2 HS5 HC1 HA1 k0 k1 k2 k3 k4 k5 k6
  obtain ⟨⟨k0, k1, k2⟩, ⟨k3, k4⟩, ⟨k5, k6⟩⟩ := (HS6.out).cells
  go_wp2_with fail
  refine (HU0.out _ (HS6.out).hb).mono ?_
  rintro E W7 ⟨E3, e3, rfl, hl3, hC3, hb⟩
  have HS7 := Aside0.mk ((HS6.out).below hb)
  have HC1c := Aside0.mk (Kd.C_below HC1b.out hb)
  have HC2c := Aside0.mk (Kd.C_below HC2.out hb)
  have HC3 := Aside0.mk hC3
  have HL3 := Aside0.mk hl3
  clear hb hC3 hl3 HS6 HC1b HC2 HU0 k0 k1 k2 k3 k4 k5 k6
  obtain ⟨⟨k0, k1, k2⟩, ⟨k3, k4⟩, ⟨k5, k6⟩⟩ := (HS7.out).cells
  go_wp2_with fail
  refine (HU1.out _ (HS7.out).hb).mono ?_
  rintro E W8 ⟨E4, e4, rfl, hl4, hC4, hb⟩
  have HS8 := Aside0.mk ((HS7.out).below hb)
  have HR := Aside0.mk fun (W : World) (hW : Below W8.heap.size W8 W) => (show Kd.C (Kd.int .i64) W E1 safe.length safe ∧ Kd.C (Kd.int .i64) W E2 sure.length sure ∧ Kd.C (Kd.int .i64) W E3 less.length less ∧ Kd.C (Kd.int .i64) W E4 lst.length lst from
    ⟨Kd.C_below (Kd.C_below HC1c.out hb) hW, Kd.C_below (Kd.C_below HC2c.out hb) hW, Kd.C_below (Kd.C_below HC3.out hb) hW, Kd.C_below hC4 hW⟩)
  have HL4 := Aside0.mk hl4
  clear hb hC4 hl4 HS7 HC1c HC2c HC3 HU1 k0 k1 k2 k3 k4 k5 k6
  have HW1 := Aside0.mk fun (W : World) (hW : Below W8.heap.size W8 W) => within_calls sure safe E2 e2 E1 e1 W (HR.out W hW).2.1 HL2.out (HR.out W hW).1 HL1.out
  rw [HP1.out] at HW1
  have HW2 := Aside0.mk fun (W : World) (hW : Below W8.heap.size W8 W) => within_calls safe less E1 e1 E3 e3 W (HR.out W hW).1 HL1.out (HR.out W hW).2.2.1 HL3.out
  have HW3 := Aside0.mk fun (W : World) (hW : Below W8.heap.size W8 W) => within_calls lst sure E4 e4 E2 e2 W (HR.out W hW).2.2.2 HL4.out (HR.out W hW).2.1 HL2.out
  have HIN := Aside0.mk fun (W : World) (hW : Below W8.heap.size W8 W) => ints_calls E2 e2 sure E1 e1 safe W (HR.out W hW).2.1 HL2.out (HR.out W hW).1 HL1.out
  obtain ⟨⟨k0, k1, k2⟩, ⟨k3, k4⟩, ⟨k5, k6⟩⟩ := (HS8.out).cells
  go_wp2_with fail
  refine (HW1.out _ (Below.refl _ _)).mono ?_
  rintro E W9 ⟨rfl, hb⟩
  have HS9 := Aside0.mk ((HS8.out).below hb)
  have HB9 := Aside0.mk hb
  clear hb HS8 HW1 k0 k1 k2 k3 k4 k5 k6
  obtain ⟨⟨k0, k1, k2⟩, ⟨k3, k4⟩, ⟨k5, k6⟩⟩ := (HS9.out).cells
  go_wp2_with fail
  refine (HWC.out _ (HS9.out).hb).mono ?_
  rintro E W10 ⟨rfl, hb⟩
  have HS10 := Aside0.mk ((HS9.out).below hb)
  have HB10 := Aside0.mk (below_then HB9.out (HB9.out).size hb)
  clear hb HS9 HB9 HWC k0 k1 k2 k3 k4 k5 k6
  -- the ways of 'whole' meet again
  have HWAY := Aside0.mk (show wh = true → eqI sure safe = true from fun h => by rw [HP2.out h]; exact (eqI_iff safe safe).2 rfl)
  cases wh with
  | false =>
    obtain ⟨⟨k0, k1, k2⟩, ⟨k3, k4⟩, ⟨k5, k6⟩⟩ := (HS10.out).cells
    go_wp2_with fail
    refine (HATC.out _ (HS10.out).hb).mono ?_
    rintro E W11 ⟨rfl, hb⟩
    have HS11 := Aside0.mk ((HS10.out).below hb)
    have HB11 := Aside0.mk (below_then HB10.out (HB10.out).size hb)
    clear hb HS10 HB10 HATC k0 k1 k2 k3 k4 k5 k6
    cases above with
    | false =>
      go_wp2_with fail
      refine (HAL.out _ (HS11.out).hb).mono ?_
      rintro E W12 ⟨rfl, hb⟩
      have HS12 := Aside0.mk ((HS11.out).below hb)
      clear hb
      go_wp2
      go_ret
      exact ⟨rfl, (HS12.out).hb⟩
    | true =>
      obtain ⟨q1, q2⟩ := HP3.out rfl
      rw [q1] at HW2
      rw [q2] at HW3
      clear q1 q2
      go_wp2_with fail
      refine (HW2.out _ HB11.out).mono ?_
      rintro E W12 ⟨rfl, hb⟩
      have HS12 := Aside0.mk ((HS11.out).below hb)
      have HB12 := Aside0.mk (below_then HB11.out (HB11.out).size hb)
      clear hb HS11 HB11
      go_wp2_with fail
      refine (HW3.out _ HB12.out).mono ?_
      rintro E W13 ⟨rfl, hb⟩
      have HS13 := Aside0.mk ((HS12.out).below hb)
      clear hb HS12 HB12
      go_wp2_with fail
      refine (HAL.out _ (HS13.out).hb).mono ?_
      rintro E W14 ⟨rfl, hb⟩
      have HS14 := Aside0.mk ((HS13.out).below hb)
      clear hb
      go_wp2
      go_ret
      exact ⟨rfl, (HS14.out).hb⟩
  | true =>
    rw [HWAY.out rfl] at HIN
    go_wp2_with fail
    refine (HIN.out _ HB10.out).mono ?_
    rintro E W10b ⟨rfl, hb⟩
    have HS10b := Aside0.mk ((HS10.out).below hb)
    have HB10b := Aside0.mk (below_then HB10.out (HB10.out).size hb)
    clear hb HS10 HB10
    obtain ⟨⟨k0, k1, k2⟩, ⟨k3, k4⟩, ⟨k5, k6⟩⟩ := (HS10b.out).cells
    go_wp2_with fail
    refine (HATC.out _ (HS10b.out).hb).mono ?_
    rintro E W11 ⟨rfl, hb⟩
    have HS11 := Aside0.mk ((HS10b.out).below hb)
    have HB11 := Aside0.mk (below_then HB10b.out (HB10b.out).size hb)
    clear hb HS10b HB10b HATC k0 k1 k2 k3 k4 k5 k6
    cases above with
    | false =>
      go_wp2_with fail
      refine (HAL.out _ (HS11.out).hb).mono ?_
      rintro E W12 ⟨rfl, hb⟩
      have HS12 := Aside0.mk ((HS11.out).below hb)
      clear hb
      go_wp2
      go_ret
      exact ⟨rfl, (HS12.out).hb⟩
    | true =>
      obtain ⟨q1, q2⟩ := HP3.out rfl
      rw [q1] at HW2
      rw [q2] at HW3
      clear q1 q2
      go_wp2_with fail
      refine (HW2.out _ HB11.out).mono ?_
      rintro E W12 ⟨rfl, hb⟩
      have HS12 := Aside0.mk ((HS11.out).below hb)
      have HB12 := Aside0.mk (below_then HB11.out (HB11.out).size hb)
      clear hb HS11 HB11
      go_wp2_with fail
      refine (HW3.out _ HB12.out).mono ?_
      rintro E W13 ⟨rfl, hb⟩
      have HS13 := Aside0.mk ((HS12.out).below hb)
      clear hb HS12 HB12
      go_wp2_with fail
      refine (HAL.out _ (HS13.out).hb).mono ?_
      rintro E W14 ⟨rfl, hb⟩
      have HS14 := Aside0.mk ((HS13.out).below hb)
      clear hb
      go_wp2
      go_ret
      exact ⟨rfl, (HS14.out).hb⟩
end Go.Proofs.YtbmcigakiibncaaGreatDoor.H
namespace Go.Proofs.YtbmcigakiibncaaGreatDoor.H
open Go.ChangeShapes Go.WideShapes Go.ChangeAt Go.RowKit Go.Deep Go.Proofs.YtbmcigakiibncaaGreatDoorW.PrintWords Go.Proofs.YtbmcigakiibncaaGreatDoorW.PrintLast Go.Proofs.YtbmcigakiibncaaGreatDoorW.PrintMore
open Go.Proofs.YtbmcigakiibncaaGreatDoor.Q (S28 k28 S83 k83)
set_option linter.unusedVariables false
set_option maxRecDepth 100000
def Opens {α : Type} (P : Program) (t : TypeId) (d : Kd α) (W : α → Prop) : Prop :=
  ∀ {H : Type} (enc : TypeId × Value → H) (w : World) (base : Nat) (held : Bool) (fuel : Nat) (cs : List Value) (x : DataW H × List MemPlace),
    DataW.trod enc P w base (fun _ => true) held fuel t cs = some x → ∃ a : α, d.K w a cs ∧ W a
theorem opens_int {P : Program} {t : TypeId} {k : IntKind} (ht : P.underlying t = some (.int k)) : Opens P t (Kd.int k) (fun a => (Lit.int k a).wf = true) := by
  intro H enc w base held fuel cs x h
  obtain ⟨n, rfl, _, hw⟩ := DataW.trod_int ht h
  exact ⟨n, rfl, hw⟩
theorem choose_list {α : Type} {p : Nat → α → Prop} {n : Nat} (h : ∀ i, i < n → ∃ y, p i y) : ∃ xs : List α, xs.length = n ∧ ∀ i y, xs[i]? = some y → p i y := by
  induction n with
  | zero => exact ⟨[], rfl, fun i y h => by simp at h⟩
  | succ n ih =>
    obtain ⟨xs, h1, h2⟩ := ih (fun i hi => h i (by omega))
    obtain ⟨y, hy⟩ := h n (by omega)
    refine ⟨xs ++ [y], by simp [h1], fun i z hz => ?_⟩
    rcases Nat.lt_or_ge i xs.length with hi | hi
    · rw [List.getElem?_append_left hi] at hz
      exact h2 i z hz
    · rw [List.getElem?_append_right hi] at hz
      have h3 : i - xs.length = 0 := by
        rcases Nat.eq_zero_or_pos (i - xs.length) with h | h
        · exact h
        · rw [List.getElem?_eq_none (by simp; omega)] at hz; cases hz
      rw [h3] at hz
      obtain rfl : y = z := by simpa using hz
      rw [show i = n from by omega]
      exact hy
theorem opens_slice {α : Type} {P : Program} {t e : TypeId} {d : Kd α} {W : α → Prop} (ht : P.underlying t = some (.slice e)) (hsz : P.cellsOf e = d.sz) (ho : Opens P e d W) : Opens P t (Kd.slice e d) (fun xs => ∀ x ∈ xs, W x) := by
  intro H enc w base held fuel cs x h
  rcases open_slice ht h with ⟨rfl, _⟩ | ⟨a, len, cap, m, n, D, Pl, rfl, _, hl, hm, hmm, _, hx⟩
  · exact ⟨[], ⟨none, 0, rfl, Nat.le_refl _, rfl, by simp, fun h0 => absurd h0 (by simp)⟩, by simp⟩
  · have hmm' : m = cap := by simpa using hmm
    have each : ∀ i, i < len → ∃ y : α, ∃ cs', w.cells? base (a.add (i * P.cellsOf e)) (P.cellsOf e) = some cs' ∧ d.K w y cs' ∧ W y := by
      intro i hi
      obtain ⟨cs', h1, h2⟩ := hx i (by omega)
      obtain ⟨y, hy, hw⟩ := ho enc w base held n cs' _ h2
      exact ⟨y, cs', h1, hy, hw⟩
    obtain ⟨xs, hxl, hxs⟩ := choose_list each
    refine ⟨xs, ⟨some a, cap, by rw [hxl], by omega, rfl, ?_, fun _ => ⟨a, rfl, fun j p hj => ?_⟩⟩, fun y hy => ?_⟩
    · have : maxLen = 9223372036854775807 := rfl
      omega
    · obtain ⟨cs', h1, h2, _⟩ := hxs j p hj
      obtain ⟨_, hlen, hcell⟩ := World.cells?_some h1
      refine ⟨cs', d.K_len h2, h2, fun i u hu => ?_⟩
      have hi : i < cs'.length := (List.getElem?_eq_some_iff.1 hu).1
      have h3 := hcell i (by omega)
      rw [Go.Deep.add_add, hsz] at h3
      rw [h3]; exact hu
    · obtain ⟨j, hj, rfl⟩ := List.getElem_of_mem hy
      obtain ⟨_, _, _, h3⟩ := hxs j _ (List.getElem?_eq_getElem hj)
      exact h3
theorem open_row {α H : Type} {enc : TypeId × Value → H} {P : Program} {t e : TypeId} {d : Kd α} {W : α → Prop} {w : World} {base fuel : Nat} {held : Bool} {v : Value} {x : DataW H × List MemPlace} (ht : P.underlying t = some (.slice e)) (hsz : P.cellsOf e = d.sz) (ho : Opens P e d W)
    (h : DataW.trod enc P w base (fun _ => true) held fuel t [v] = some x) : ∃ A c xs, v = .slice A xs.length c ∧ xs.length ≤ c ∧ d.C w A xs.length xs ∧ ∀ y ∈ xs, W y := by
  obtain ⟨xs, ⟨A, c, hv, hc, hC⟩, hW⟩ := opens_slice ht hsz ho enc w base held fuel [v] x h
  exact ⟨A, c, xs, by simpa using hv, hc, hC, hW⟩
theorem opens_need : Opens Tryz.prog 83 k83 (fun _ => True) := by
  intro H enc w base held fuel cs x h
  obtain ⟨y0, y1, n, rfl, hl, h0, h1⟩ := trod_struct2 Tryz.underlying83 h
  have o0 : (Tryz.prog.cellsOf 3) = 1 := by kernel_rfl
  have o2 : (Tryz.prog.cellsOf 83) = 2 := by kernel_rfl
  rw [o2] at hl
  match cs, hl with
  | [c0, c1], _ =>
    simp only [o0] at h0 h1
    obtain ⟨s, e0, _, _⟩ := DataW.trod_int Tryz.underlying3 h0
    obtain ⟨t, e1, _, _⟩ := DataW.trod_int Tryz.underlying3 h1
    obtain rfl : c0 = .int .i64 s := by simpa using e0
    obtain rfl : c1 = .int .i64 t := by simpa using e1
    exact ⟨⟨s, t⟩, Q.k83_mk w ⟨s, t⟩, trivial⟩
theorem opens_moves : Opens Tryz.prog 23 (Kd.slice 65 kA3) (fun _ => True) := by
  intro H enc w base held fuel cs x h
  obtain ⟨a, h1, _⟩ := opens_slice (e := 65) Tryz.underlying23 (by kernel_rfl) (opens_slice (e := 66) Tryz.underlying65 (by kernel_rfl) (opens_slice (e := 69) Tryz.underlying66 (by kernel_rfl) (opens_slice (e := 83) Tryz.underlying69 (by kernel_rfl) opens_need))) enc w base held fuel cs x h
  exact ⟨a, h1, trivial⟩
theorem open_kids {H : Type} {enc : TypeId × Value → H} {w : World} {base fuel : Nat} {held : Bool} {cs : List Value} {x : DataW H × List MemPlace} (h : DataW.trod enc Tryz.prog w base (fun _ => true) held fuel 26 cs = some x)
    (each : ∀ (fuel : Nat) (cs : List Value) (y : DataW H × List MemPlace), SizeOf.sizeOf y.1 < SizeOf.sizeOf x.1 → DataW.trod enc Tryz.prog w base (fun _ => true) held fuel 28 cs = some y → ∃ t : S28, k28.K w t cs) :
    ∃ (A : Option Addr) (c : Nat) (l : List S28), cs = [.slice A l.length c] ∧ l.length ≤ c ∧ k28.C w A l.length l := by
  rcases open_slice Tryz.underlying26 h with ⟨rfl, _⟩ | ⟨a, len, cap, m, n, D, Pl, rfl, _, hl, hm, hmm, hxe, hx⟩
  · exact ⟨none, 0, [], rfl, Nat.le_refl _, rfl, by simp, fun h0 => absurd h0 (by simp)⟩
  · have hmm' : m = cap := by simpa using hmm
    have hel : ∀ i, i < len → ∃ t : S28, ∃ cs', w.cells? base (a.add (i * Tryz.prog.cellsOf 28)) (Tryz.prog.cellsOf 28) = some cs' ∧ k28.K w t cs' := by
      intro i hi
      obtain ⟨cs', h1, h2⟩ := hx i (by omega)
      have hlt : SizeOf.sizeOf (D i) < SizeOf.sizeOf x.1 := by
        rw [hxe]
        have hmem : D i ∈ (List.range len).map D := List.mem_map.2 ⟨i, List.mem_range.2 hi, rfl⟩
        have := List.sizeOf_lt_of_mem hmem
        simp only [DataW.slice.sizeOf_spec]
        omega
      obtain ⟨t, ht⟩ := each n cs' _ hlt h2
      exact ⟨t, cs', h1, ht⟩
    obtain ⟨xs, hxl, hxs⟩ := choose_list hel
    have c28 : Tryz.prog.cellsOf 28 = 2 := by kernel_rfl
    refine ⟨some a, cap, xs, by rw [hxl], by omega, rfl, ?_, fun _ => ⟨a, rfl, fun j p hj => ?_⟩⟩
    · have : maxLen = 9223372036854775807 := rfl
      omega
    · obtain ⟨cs', h1, h2⟩ := hxs j p hj
      obtain ⟨_, hlen, hcell⟩ := World.cells?_some h1
      refine ⟨cs', k28.K_len h2, h2, fun i u hu => ?_⟩
      have hi : i < cs'.length := (List.getElem?_eq_some_iff.1 hu).1
      have h3 := hcell i (by omega)
      rw [Go.Deep.add_add, c28] at h3
      rw [show k28.sz = 2 from rfl, h3]; exact hu
theorem open_tree {H : Type} {enc : TypeId × Value → H} {w : World} {base : Nat} {held : Bool} (N : Nat) : ∀ (fuel : Nat) (cs : List Value) (x : DataW H × List MemPlace), SizeOf.sizeOf x.1 ≤ N → DataW.trod enc Tryz.prog w base (fun _ => true) held fuel 28 cs = some x → ∃ t : S28, k28.K w t cs := by
  induction N with
  | zero =>
    intro fuel cs x hN
    have : 0 < SizeOf.sizeOf x.1 := by cases x.1 <;> simp <;> omega
    omega
  | succ N ih =>
    intro fuel cs x hN h
    obtain ⟨y0, y1, n, rfl, hl, h0, h1⟩ := trod_struct2 Tryz.underlying28 h
    have o0 : (Tryz.prog.cellsOf 3) = 1 := by kernel_rfl
    have o1 : (Tryz.prog.cellsOf 26) = 1 := by kernel_rfl
    have o2 : (Tryz.prog.cellsOf 28) = 2 := by kernel_rfl
    rw [o2] at hl
    match cs, hl with
    | [c0, c1], _ =>
      simp only [o0, o1] at h0 h1
      obtain ⟨s, e0, _, _⟩ := DataW.trod_int Tryz.underlying3 h0
      obtain ⟨A, c, l, e1, hlc, hC⟩ := open_kids h1 (fun fuel cs y hy hh => ih fuel cs y (by simp only [DataW.agg.sizeOf_spec, List.cons.sizeOf_spec, List.nil.sizeOf_spec] at hN; omega) hh)
      obtain rfl : c0 = .int .i64 s := by simpa using e0
      obtain rfl : c1 = .slice A l.length c := by simpa using e1
      exact ⟨⟨s, l⟩, Q.k28_mk w ⟨s, l⟩ hlc hC⟩
theorem arg_tree {H : Type} {enc : TypeId × Value → H} {w : World} {base : Nat} {held : Bool} {v : Value} {d : DataW H} {p : List MemPlace} (hv : Value.okWide Tryz.prog w .any base 28 v) (h : DataW.Trod enc Tryz.prog w 0 (fun _ => true) held 28 v d p) :
    ∃ (t : S28) (A : Option Addr) (c : Nat), v = .agg #[.int .i64 t.f0, .slice A t.f1.length c] ∧ t.f1.length ≤ c ∧ k28.C w A t.f1.length t.f1 := by
  obtain ⟨x3, y3, _, _, n3, rfl, _, _, a3, b3⟩ := Go.Joins.open_agg2 Tryz.underlying28 (by kernel_rfl) (by kernel_rfl) hv h
  obtain ⟨s3, he3, _, we3⟩ := DataW.trod_int Tryz.underlying3 a3
  obtain rfl : x3 = .int .i64 s3 := by simpa using he3
  obtain ⟨A3, cc3, l3, hy3, hl3, hC3⟩ := open_kids b3 (fun fuel cs y hy hh => open_tree _ fuel cs y (Nat.le_refl _) hh)
  obtain rfl : y3 = .slice A3 l3.length cc3 := by simpa using hy3
  exact ⟨⟨s3, l3⟩, A3, cc3, rfl, hl3, hC3⟩
theorem arg_auto {H : Type} {enc : TypeId × Value → H} {w : World} {base : Nat} {held : Bool} {v : Value} {d : DataW H} {p : List MemPlace} (hv : Value.okWide Tryz.prog w .any base 25 v) (h : DataW.Trod enc Tryz.prog w 0 (fun _ => true) held 25 v d p) :
    ∃ (rk : List Int) (st : Int) (M : Mv) (A1 : Option Addr) (c1 : Nat) (A2 : Option Addr) (c2 : Nat), v = .agg #[.slice A1 rk.length c1, .int .i64 st, .slice A2 M.length c2] ∧ rk.length ≤ c1 ∧ Kd.C (Kd.int .i64) w A1 rk.length rk ∧ M.length ≤ c2 ∧ Kd.C kA3 w A2 M.length M ∧ (Lit.int .i64 st).wf = true ∧ ∀ x ∈ rk, (Lit.int .i64 x).wf = true := by
  obtain ⟨x0, y0, z0, _, _, _, n0, rfl, _, _, a0, b0, c0⟩ := Go.Joins.open_agg3 Tryz.underlying25 (by kernel_rfl) (by kernel_rfl) hv h
  obtain ⟨A1, c1, rk, rfl, hl1, hC1, hw1⟩ := open_row (d := Kd.int .i64) Tryz.underlying22 (by kernel_rfl) (opens_int Tryz.underlying3) a0
  obtain ⟨st, hs, _, ws⟩ := DataW.trod_int Tryz.underlying3 b0
  obtain rfl : y0 = .int .i64 st := by simpa using hs
  obtain ⟨M, ⟨A2, c2, e2, hl2, hC2⟩, _⟩ := opens_moves enc _ _ _ _ _ _ c0
  obtain rfl : z0 = .slice A2 M.length c2 := by simpa using e2
  exact ⟨rk, st, M, A1, c1, A2, c2, rfl, hl1, hC1, hl2, hC2, ws, hw1⟩
theorem own : ownKnob Tryz.prog.godebug = none := by kernel_rfl
theorem laidOut : laidOutB Tryz.prog = true := by kernel_rfl
theorem g64 : Tryz.prog.globalNamed "math/bits.deBruijn64tab" = some 1 := by kernel_rfl
theorem t64 : (Tryz.prog.globals[1]?).map (·.type) = some 156 := by kernel_rfl
abbrev laid7 : List (String × DataW Unit) := [("math/bits.deBruijn32tab", Rows.laid_math_bits_deBruijn32tab), ("math/bits.deBruijn64tab", Rows.laid_math_bits_deBruijn64tab), ("internal/strconv.uint64pow10", Rows.laid_internal_strconv_uint64pow10), ("unicode/utf8.acceptRanges", Rows.laid_unicode_utf8_acceptRanges), ("strconv.ErrRange", Rows.laid_strconv_ErrRange), ("strconv.ErrSyntax", Rows.laid_strconv_ErrSyntax), ("unicode/utf8.first", Rows.laid_unicode_utf8_first)]
theorem mx_of_shaped {w : World} (h : w.ShapedOpen Tryz.prog) : MX w :=
  Go.Proofs.cell_of_shapedOpen_int (g := 2) (t := 3) (zero := #[.int .i64 0]) h (of_decide_eq_true (by kernel_rfl)) (by kernel_rfl) rfl (by kernel_rfl) (by kernel_rfl) Tryz.underlying3
theorem tabD_of_laid {W : World} (h : laidMetH Tryz.prog laid7 W) : TabD W := by
  rw [MakeChecks.laidMetH_plain _ _ _ (by kernel_rfl)] at h
  obtain ⟨ps, ⟨g0, t0, cs0, f0, p0, q0, hg0, ht0, hv0, hd0, ⟨g1, t1, cs1, f1, p1, q1, hg1, ht1, hv1, hd1, _, _⟩, _⟩, _, _⟩ := h
  obtain rfl := Option.some.inj (g64.symm.trans hg1)
  obtain rfl := Option.some.inj (t64.symm.trans ht1)
  obtain ⟨xs, m1, rfl, hx1, hlen, hn, hel⟩ := DataW.trod_array Tryz.underlying156 hd1
  have c5 : Tryz.prog.cellsOf 5 = 1 := by kernel_rfl
  simp only [Prod.mk.injEq] at hx1
  have hxe := hx1.1
  intro i hi
  have h1 := hel i hi
  rw [c5, Nat.mul_one] at h1
  cases hxi : xs[i]? with
  | none =>
    have := List.getElem?_eq_none_iff.1 hxi
    omega
  | some x =>
    rw [hxi] at h1
    obtain ⟨n, e1, e2, _⟩ := DataW.trod_int Tryz.underlying5 h1
    have hc := World.var?_cell hg1 hv1 i
    rw [hc, ← Array.getElem?_toList]
    have h3 := congrArg (·[0]?) e1
    have h4 : cs1.toList[i]? = some (.int .u8 n) := by simpa [List.getElem?_take, List.getElem?_drop] using h3
    rw [h4]
    have h5 : (xs.map (·.1))[i]? = some (.lit (.int .u8 n)) := by rw [List.getElem?_map, hxi]; simp [e2]
    have h6 : (xs.map (·.1)) = Lib.deBruijn64tab.map fun (n : Nat) => (.lit (.int .u8 (n : Int)) : DataW Unit) := by
      first | exact (DataW.agg.inj hxe).symm | exact DataW.agg.inj hxe
    rw [h6, List.getElem?_map] at h5
    have h7 : i < Lib.deBruijn64tab.length := by rw [show Lib.deBruijn64tab.length = 64 from rfl]; exact hi
    rw [List.getElem?_eq_getElem h7] at h5
    have h8 : ((Lib.deBruijn64tab[i] : Nat) : Int) = n := by simpa using h5
    rw [List.getD, List.getElem?_eq_getElem h7]
    simp [h8]
theorem handed_and_shaped {H : Type} {enc : TypeId × Value → H} {a : Assume} {C : Checked} {os : Os} {f : FuncId} {fn : Func} {s : ChangeSpec} {conds : List PathCond} {apart fresh handsOn again : Bool} {X : World → Array Value → Prop}
    (hX : ∀ (w w' : World) (args : Array Value), w.heap = w'.heap → X w args → X w' args)
    (own : ownKnob C.prog.godebug = none) (started : os.Started) (noInit : C.prog.inits.idxOf? f = none) (hfn : C.prog.funcs[f]? = some fn)
    (witness : ∃ (w : World) (tape : Tape) (i : Input), w.os = os ∧ (w.forCall tape i).Shaped C.prog ∧ i.vars = [] ∧ Input.okWide C.prog (w.forCall tape i) .any w.heap.size f i ∧
      ((s.pre enc C.prog fn conds apart (w.forCall tape i).memory i.args ∧ X (w.forCall tape i).memory i.args) ∧ sizedMet enc C.prog fn (OpenSpec.ofChange s) apart (w.forCall tape i).memory i.args) ∧ a.holds C.prog (lone (Frame.enter C.prog f i.args .normal) [] (w.forCall tape i)))
    (contract : ∀ (W : World) (base : Nat) (args : Array Value) (ds gs : List (DataW H)) (before : List MemPlace),
      (∀ (j : Nat) t v, fn.params[j]? = some t → args[j]? = some v → Value.okWide C.prog W .any base t v) →
      DataW.Whole enc C.prog fn.params.toList s.vars apart W args.toList ds gs before →
      conds.all (PathCond.test C.prog ⟨fn.params.toList, ds, s.plain.varTypes C.prog, gs⟩) = true →
      X W args → W.ShapedOpen C.prog →
      Calls C.prog f args W fun e W' => ∃ v, e = .returned v ∧ s.post enc C.prog fn apart fresh handsOn again W args v W') :
    ReturnsInHanded a C os f .any (fun w args => (s.pre enc C.prog fn conds apart w args ∧ X w args) ∧ sizedMet enc C.prog fn (OpenSpec.ofChange s) apart w args) (s.post enc C.prog fn apart fresh handsOn again) := by
  refine returnsInHanded_of_calls own started noInit witness ?_
  intro w tape i _ hsh _ hok hpre hholds
  obtain ⟨_, _, _, fn', hfn', _, _, _, _, hval⟩ := hok
  have e : fn' = fn := Option.some.inj (hfn'.symm.trans hfn)
  subst e
  obtain ⟨⟨⟨ds, gs, before, hw, hc⟩, hx⟩, hz⟩ := hpre
  have hw' := DataW.Whole.of_heap (w' := w.forCall tape i) (by rfl) hw
  refine (contract (w.forCall tape i) w.heap.size i.args ds gs before hval hw' hc (hX _ _ _ (by rfl) hx) hsh).mono fun e W' ⟨v, he, hp⟩ => ?_
  subst he
  exact ChangeSpec.post_blind hp
end Go.Proofs.YtbmcigakiibncaaGreatDoor.H
