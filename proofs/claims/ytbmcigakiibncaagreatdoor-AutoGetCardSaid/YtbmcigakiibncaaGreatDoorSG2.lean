/- What autoGet_calls, handed_and_shaped, own, laidOut, laid7, mx_of_shaped, tabD_of_laid, arg_auto, arg_tree needs, out of my texts, by a program (slim.py). -/
import Derived.Test.YtbmcigakiibncaaGreatDoorSG1
namespace Go.Proofs.YtbmcigakiibncaaGreatDoor.H
open Go.RowKit
set_option linter.unusedVariables false
set_option linter.unusedSimpArgs false
def NdOk (x : Nd) : Prop := ∃ a b : Nat, a ≤ 1000000000 ∧ b ≤ 1000000000 ∧ x = ⟨(a : Int), (b : Int)⟩
theorem needT_of (a b : Nat) : needT (⟨(a : Int), (b : Int)⟩ : Nd) = 32 :: (dg a ++ 46 :: dg b) := rfl
theorem alt_of : ∀ (z : List Nd) (k : Nat), (z.flatMap needT).length < k → (∀ y ∈ z, NdOk y) → altV k (z.flatMap needT) = some z := by
  intro z
  induction z with
  | nil =>
    intro k hk _
    cases k with
    | zero => simp at hk
    | succ k => rw [List.flatMap_nil, altV, if_pos rfl]
  | cons y r ih =>
    intro k hk hz
    obtain ⟨a, b, ha, hb, rfl⟩ := hz y (List.mem_cons_self ..)
    rw [List.flatMap_cons, needT_of] at hk ⊢
    generalize hw : r.flatMap needT = w at *
    have hw0 : w = [] ∨ ∃ v, w = 32 :: v := by
      cases r with
      | nil => left; rw [← hw]; rfl
      | cons y2 r2 => right; rw [← hw, List.flatMap_cons]; exact ⟨_, rfl⟩
    have hx : altX (32 :: (dg a ++ 46 :: dg b) ++ w) = (dg a ++ 46 :: dg b) ++ w := by
      unfold altX Lib.trimPrefix Lib.hasPrefix
      rw [if_pos (by simp [List.isPrefixOf])]
      simp
    have h32 : (32 : UInt8) ∉ dg a ++ 46 :: dg b := by
      intro h
      rcases List.mem_append.1 h with h | h
      · exact dg_not (by decide) a h
      · rcases List.mem_cons.1 h with h | h
        · exact absurd h (by decide)
        · exact dg_not (by decide) b h
    have hn : altN (32 :: (dg a ++ 46 :: dg b) ++ w) = (dg a ++ 46 :: dg b).length := by
      unfold altN
      rw [hx, indexByte_index]
      rcases hw0 with rfl | ⟨v, rfl⟩
      · rw [List.append_nil, index_one_none h32, if_pos (by decide)]
      · rw [index_one_hit h32, if_neg (by omega)]; rfl
    have ht : (altX (32 :: (dg a ++ 46 :: dg b) ++ w)).take (altN (32 :: (dg a ++ 46 :: dg b) ++ w)) = dg a ++ 46 :: dg b := by
      rw [hn, hx, List.take_left]
    have hr : altR (32 :: (dg a ++ 46 :: dg b) ++ w) = w := by
      unfold altR
      rw [hn, hx, List.drop_left]
    have hc : altC (32 :: (dg a ++ 46 :: dg b) ++ w) = (dg a, dg b, true) := by
      unfold altC
      rw [ht, cut_hit (dg_not (by decide) a)]
    have hg : altGo (32 :: (dg a ++ 46 :: dg b) ++ w) = true := by
      unfold altGo
      rw [hc]
      simp only [(num_dg ha).1, (num_dg hb).1, Bool.and_true]
      simp [Lib.hasPrefix, List.isPrefixOf]
    have he : altE (32 :: (dg a ++ 46 :: dg b) ++ w) = ⟨(a : Int), (b : Int)⟩ := by
      unfold altE
      rw [hc]
      simp only [(num_dg ha).2, (num_dg hb).2]
    cases k with
    | zero => simp at hk
    | succ k =>
      rw [altV, if_neg (by simp), if_pos hg, hr, he]
      have hlen : w.length < k := by simp only [List.length_append, List.length_cons] at hk; omega
      rw [ih k hlen (fun y hy => hz y (List.mem_cons_of_mem _ hy))]
      rfl
theorem alt_inv : ∀ (k : Nat) (l : List UInt8) (z : List Nd), altV k l = some z → l = z.flatMap needT ∧ ∀ y ∈ z, NdOk y := by
  intro k
  induction k with
  | zero => intro l z h; cases h
  | succ k ih =>
    intro l z h
    rw [altV] at h
    by_cases hl : l = []
    · rw [if_pos hl] at h
      obtain rfl := Option.some.inj h
      exact ⟨hl, fun y hy => by cases hy⟩
    · rw [if_neg hl] at h
      cases hg : altGo l with
      | false => rw [hg] at h; cases h
      | true =>
        rw [hg, if_pos rfl] at h
        cases hv : altV k (altR l) with
        | none => rw [hv] at h; cases h
        | some zr =>
          rw [hv] at h
          obtain rfl := Option.some.inj h
          obtain ⟨e, hok⟩ := ih _ _ hv
          unfold altGo at hg
          simp only [Bool.and_eq_true] at hg
          obtain ⟨⟨⟨g1, g2⟩, g3⟩, g4⟩ := hg
          obtain ⟨a, ha, ea, va⟩ := num_inv g3
          obtain ⟨b, hb, eb, vb⟩ := num_inv g4
          have hx : l = 32 :: altX l := by
            cases l with
            | nil => exact absurd rfl hl
            | cons c r =>
              have g0 : (32 == c && List.isPrefixOf [] r) = true := g1
              have : c = 32 := by rw [Bool.and_eq_true, beq_iff_eq] at g0; exact g0.1.symm
              subst this
              unfold altX Lib.trimPrefix
              rw [if_pos g1]; rfl
          have hc : (altX l).take (altN l) = dg a ++ 46 :: dg b := by
            have h1 := (cut_true (l := (altX l).take (altN l)) (c := 46) g2).2
            rw [h1]
            show (altC l).1 ++ 46 :: (altC l).2.1 = _
            rw [ea, eb]
          have hE : altE l = ⟨(a : Int), (b : Int)⟩ := by unfold altE; rw [va, vb]
          refine ⟨?_, fun y hy => ?_⟩
          · rw [List.flatMap_cons, hE, needT_of, ← e]
            show l = 32 :: (dg a ++ 46 :: dg b) ++ altR l
            rw [← hc]
            unfold altR
            rw [List.cons_append, List.take_append_drop]
            exact hx
          · rcases List.mem_cons.1 hy with rfl | hy
            · exact ⟨a, b, ha, hb, hE⟩
            · exact hok y hy
abbrev Ln := Nat × Nat × List Nd
def lineT (x : Ln) : List UInt8 := headT x.1 x.2.1 ++ x.2.2.flatMap needT
def LnOk (x : Ln) : Prop := x.1 ≤ 1000000000 ∧ x.2.1 ≤ 1000000000 ∧ ∀ y ∈ x.2.2, NdOk y
theorem headT_eq (q f : Nat) (w : List UInt8) : headT q f ++ w = (dg q ++ 32 :: dg f) ++ 58 :: w := by
  unfold headT; simp
theorem head_no58 (q f : Nat) : (58 : UInt8) ∉ dg q ++ 32 :: dg f := by
  intro h
  rcases List.mem_append.1 h with h | h
  · exact dg_not (by decide) q h
  · rcases List.mem_cons.1 h with h | h
    · exact absurd h (by decide)
    · exact dg_not (by decide) f h
theorem line_of {s : ByteArray} {x : Ln} (hs : s.data.toList = lineT x) (h : LnOk x) : lnGo s = true ∧ lnQ s = x.1 ∧ lnF s = x.2.1 ∧ lnZ s = some x.2.2 := by
  obtain ⟨q, f, z⟩ := x
  obtain ⟨h1, h2, h3⟩ := h
  have e1 : lnAt s = (dg q ++ 32 :: dg f, z.flatMap needT, true) := by
    unfold lnAt
    rw [hs]
    unfold lineT
    rw [headT_eq, cut_hit (head_no58 q f)]
  have e2 : lnXY s = (dg q, dg f, true) := by
    unfold lnXY
    rw [e1, cut_hit (dg_not (by decide) q)]
  refine ⟨?_, ?_, ?_, ?_⟩
  · unfold lnGo; rw [e1, e2]; simp only [(num_dg h1).1, (num_dg h2).1]; rfl
  · unfold lnQ; rw [e2]; exact (num_dg h1).2
  · unfold lnF; rw [e2]; exact (num_dg h2).2
  · unfold lnZ; rw [e1]; exact alt_of z _ (Nat.lt_succ_self _) h3
theorem line_inv {s : ByteArray} {z : List Nd} (hg : lnGo s = true) (hz : lnZ s = some z) : ∃ q f : Nat, s.data.toList = lineT (q, f, z) ∧ LnOk (q, f, z) := by
  unfold lnGo at hg
  simp only [Bool.and_eq_true] at hg
  obtain ⟨⟨⟨g1, g2⟩, g3⟩, g4⟩ := hg
  obtain ⟨q, hq, eq, _⟩ := num_inv g3
  obtain ⟨f, hf, ef, _⟩ := num_inv g4
  have h1 := (cut_true (l := s.data.toList) (c := 58) g1).2
  have h2 := (cut_true (l := (lnAt s).1) (c := 32) g2).2
  obtain ⟨e, hok⟩ := alt_inv _ _ _ hz
  refine ⟨q, f, ?_, hq, hf, hok⟩
  unfold lineT
  rw [headT_eq, ← e, ← eq, ← ef]
  have h2' : (lnXY s).1 ++ 32 :: (lnXY s).2.1 = (lnAt s).1 := h2.symm
  rw [h2']
  exact h1
def pstep (states m : Nat) : List Ln → Int → Mv → Option Mv
  | [], _, M => some M
  | x :: r, last, M => if x.1 < states ∧ x.2.1 < m ∧ last ≤ ((x.1 * m + x.2.1 : Nat) : Int) then pstep states m r ((x.1 * m + x.2.1 : Nat) : Int) (if x.1 < M.length then addAlt M x.1 x.2.1 x.2.2 else M) else none
theorem gstep_of (states m : Nat) : ∀ (ls : List Ln) (Ls : List ByteArray) (last : Int) (M : Mv), Ls.map (·.data.toList) = ls.map lineT → (∀ x ∈ ls, LnOk x) → gstep (states : Int) m Ls last M = pstep states m ls last M := by
  intro ls
  induction ls with
  | nil =>
    intro Ls last M h _
    cases Ls with
    | nil => rfl
    | cons s r => simp at h
  | cons x r ih =>
    intro Ls last M h hok
    cases Ls with
    | nil => simp at h
    | cons s Lr =>
      simp only [List.map_cons, List.cons.injEq] at h
      obtain ⟨h1, h2, h3, h4⟩ := line_of h.1 (hok x (List.mem_cons_self ..))
      rw [gstep, pstep, h1, h4, Bool.true_and]
      have hc : lnOk (states : Int) (m : Int) last s = decide (x.1 < states ∧ x.2.1 < m ∧ last ≤ ((x.1 * m + x.2.1 : Nat) : Int)) := by
        unfold lnOk
        rw [h2, h3]
        rw [Bool.eq_iff_iff]
        simp only [Bool.not_eq_true', Bool.or_eq_false_iff, decide_eq_false_iff_not, decide_eq_true_eq]
        have e : ((x.1 * m + x.2.1 : Nat) : Int) = (x.1 : Int) * (m : Int) + (x.2.1 : Int) := by simp
        rw [e]
        constructor
        · rintro ⟨⟨a, b⟩, c⟩; exact ⟨by omega, by omega, by omega⟩
        · rintro ⟨a, b, c⟩; exact ⟨⟨by omega, by omega⟩, by omega⟩
      rw [hc, h2, h3]
      simp only [decide_eq_true_eq, Int.toNat_natCast]
      have e : (x.1 : Int) * (m : Int) + (x.2.1 : Int) = ((x.1 * m + x.2.1 : Nat) : Int) := by simp
      rw [e]
      have e2 : ((x.1 : Int) < (M.length : Int)) = (x.1 < M.length) := by simp
      simp only [e2]
      split
      · exact ih Lr _ _ h.2 fun y hy => hok y (List.mem_cons_of_mem _ hy)
      · rfl
theorem gstep_inv (states m : Int) : ∀ (Ls : List ByteArray) (last : Int) (M M' : Mv) (k : Nat), m = (k : Int) → gstep states k Ls last M = some M' → ∃ ls : List Ln, Ls.map (·.data.toList) = ls.map lineT ∧ ∀ x ∈ ls, LnOk x := by
  intro Ls
  induction Ls with
  | nil => intro last M M' k _ h; exact ⟨[], rfl, fun x hx => by cases hx⟩
  | cons s r ih =>
    intro last M M' k hk h
    rw [gstep] at h
    cases hc : (lnGo s && lnOk states k last s) with
    | false => rw [hc] at h; cases h
    | true =>
      rw [hc, if_pos rfl] at h
      cases hz : lnZ s with
      | none => rw [hz] at h; cases h
      | some z =>
        rw [hz] at h
        rw [Bool.and_eq_true] at hc
        obtain ⟨q, f, e, hok⟩ := line_inv hc.1 hz
        obtain ⟨ls, h1, h2⟩ := ih _ _ _ k hk h
        refine ⟨(q, f, z) :: ls, by rw [List.map_cons, List.map_cons, e, h1], fun x hx => ?_⟩
        rcases List.mem_cons.1 hx with rfl | hx
        · exact hok
        · exact h2 x hx
def linesT (ls : List Ln) : List UInt8 := ls.flatMap fun x => altT x.1 x.2.1 x.2.2
def gramT (rk : List Int) (states st : Nat) (ls : List Ln) : List UInt8 := tRanks ++ (ranksT rk ++ (secT states st ++ linesT ls))
structure GramOk (rk : List Int) (states st : Nat) (ls : List Ln) : Prop where
  hr : ∀ r ∈ rk, ∃ n : Nat, n ≤ 1000000000 ∧ r = (n : Int)
  hs : states ≤ 1000000000
  ht : st ≤ 1000000000
  hl : ∀ x ∈ ls, LnOk x
def gramV (rk : List Int) (states st : Nat) (ls : List Ln) : Option (List Int × Int × Mv) := (pstep states rk.length ls (-1) (List.replicate (min states 7) (List.replicate rk.length []))).map fun M => (rk, (st : Int), M)
theorem altT_line (x : Ln) : altT x.1 x.2.1 x.2.2 = lineT x ++ [10] := by unfold altT lineT; simp
theorem joinC_end (c : UInt8) : ∀ ps : List (List UInt8), joinC c (ps ++ [[]]) = ps.flatMap (· ++ [c])
  | [] => rfl
  | p :: r => by
    rw [List.cons_append, joinC_cons c p (by simp), joinC_end c r, List.flatMap_cons]
    simp
theorem joinC_head (c : UInt8) : ∀ (ps : List (List UInt8)) (p : List UInt8), joinC c (p :: ps) = p ++ ps.flatMap (c :: ·)
  | [], p => by simp [joinC]
  | q :: r, p => by
    rw [joinC_cons c p (by simp), joinC_head c r q, List.flatMap_cons]
    simp
def tSt : List UInt8 := [115, 116, 97, 116, 101, 115]
def tSa : List UInt8 := [115, 116, 97, 114, 116]
def firstT (rk : List Int) : List UInt8 := tRanks ++ ranksT rk
def secondT (states st : Nat) : List UInt8 := tSt ++ 32 :: (dg states ++ 32 :: (tSa ++ 32 :: dg st))
theorem first_join (rk : List Int) : joinC 32 (tRanks :: rk.map fun r => dg r.toNat) = firstT rk := by
  rw [joinC_head]
  unfold firstT ranksT
  congr 1
  induction rk with
  | nil => rfl
  | cons a r ih => simp only [List.map_cons, List.flatMap_cons, ih]
theorem second_join (states st : Nat) : joinC 32 [tSt, dg states, tSa, dg st] = secondT states st := rfl
theorem whole_join (rk : List Int) (states st : Nat) (ls : List Ln) : joinC 10 (firstT rk :: secondT states st :: ls.map lineT ++ [[]]) = gramT rk states st ls := by
  rw [joinC_end]
  simp only [List.flatMap_cons]
  have e : (ls.map lineT).flatMap (· ++ [10]) = linesT ls := by
    unfold linesT
    induction ls with
    | nil => rfl
    | cons x r ih => rw [List.map_cons, List.flatMap_cons, List.flatMap_cons, ih, altT_line]
  rw [e]
  unfold gramT firstT secondT secT
  simp [tStates, tStart, tSt, tSa]
theorem need_no10 {z : List Nd} (h : ∀ y ∈ z, NdOk y) : (10 : UInt8) ∉ z.flatMap needT := by
  intro hm
  obtain ⟨y, hy, h1⟩ := List.mem_flatMap.1 hm
  obtain ⟨a, b, _, _, rfl⟩ := h y hy
  rw [needT_of] at h1
  rcases List.mem_cons.1 h1 with h1 | h1
  · exact absurd h1 (by decide)
  · rcases List.mem_append.1 h1 with h1 | h1
    · exact dg_not (by decide) a h1
    · rcases List.mem_cons.1 h1 with h1 | h1
      · exact absurd h1 (by decide)
      · exact dg_not (by decide) b h1
theorem line_no10 {x : Ln} (h : LnOk x) : (10 : UInt8) ∉ lineT x := by
  unfold lineT
  rw [headT_eq]
  intro hm
  rcases List.mem_append.1 hm with hm | hm
  · rcases List.mem_append.1 hm with hm | hm
    · exact dg_not (by decide) _ hm
    · rcases List.mem_cons.1 hm with hm | hm
      · exact absurd hm (by decide)
      · exact dg_not (by decide) _ hm
  · rcases List.mem_cons.1 hm with hm | hm
    · exact absurd hm (by decide)
    · exact need_no10 h.2.2 hm
theorem first_no10 (rk : List Int) : (10 : UInt8) ∉ firstT rk := by
  unfold firstT ranksT
  intro hm
  rcases List.mem_append.1 hm with hm | hm
  · exact absurd hm (by decide)
  · obtain ⟨y, hy, h1⟩ := List.mem_flatMap.1 hm
    rcases List.mem_cons.1 h1 with h1 | h1
    · exact absurd h1 (by decide)
    · exact dg_not (by decide) _ h1
theorem second_no10 (states st : Nat) : (10 : UInt8) ∉ secondT states st := by
  unfold secondT
  intro hm
  rcases List.mem_append.1 hm with hm | hm
  · exact absurd hm (by decide)
  · rcases List.mem_cons.1 hm with hm | hm
    · exact absurd hm (by decide)
    · rcases List.mem_append.1 hm with hm | hm
      · exact dg_not (by decide) _ hm
      · rcases List.mem_cons.1 hm with hm | hm
        · exact absurd hm (by decide)
        · rcases List.mem_append.1 hm with hm | hm
          · exact absurd hm (by decide)
          · rcases List.mem_cons.1 hm with hm | hm
            · exact absurd hm (by decide)
            · exact dg_not (by decide) _ hm
theorem getD_data (L : List ByteArray) (i : Nat) : (L.getD i ByteArray.empty).data.toList = (L.map (·.data.toList)).getD i [] := by
  rw [List.getD_eq_getElem?_getD, List.getD_eq_getElem?_getD, List.getElem?_map]
  cases L[i]? <;> rfl
theorem all_okW (l : List ByteArray) : l.all okW = (l.map (·.data.toList)).all numOk := by rw [List.all_map]; rfl
theorem map_valW (l : List ByteArray) : l.map valW = (l.map (·.data.toList)).map num0V := by rw [List.map_map]; rfl
theorem map_cons_inv {L : List ByteArray} {p : List UInt8} {ps : List (List UInt8)} (h : L.map (·.data.toList) = p :: ps) : ∃ s r, L = s :: r ∧ s.data.toList = p ∧ r.map (·.data.toList) = ps := by
  cases L with
  | nil => simp at h
  | cons s r => simp only [List.map_cons, List.cons.injEq] at h; exact ⟨s, r, rfl, h.1, h.2⟩
theorem sRanks_data : sRanks.data.toList = tRanks := rfl
theorem sStates_data : sStates.data.toList = tSt := rfl
theorem sStart_data : sStart.data.toList = tSa := rfl
theorem getV_gram {t : ByteArray} {rk : List Int} {states st : Nat} {ls : List Ln} (h : GramOk rk states st ls) (ht : t.data.toList = gramT rk states st ls) : getV t = gramV rk states st ls := by
  have hL : (chunks t 10).map (·.data.toList) = firstT rk :: secondT states st :: ls.map lineT ++ [[]] := by
    refine chunksL_iff (by simp) ?_ (by rw [whole_join, ht])
    intro p hp
    simp only [List.cons_append, List.mem_cons, List.mem_append, List.mem_map, List.mem_singleton, List.not_mem_nil, or_false] at hp
    rcases hp with rfl | rfl | ⟨x, hx, rfl⟩ | rfl
    · exact first_no10 rk
    · exact second_no10 states st
    · exact line_no10 (h.hl x hx)
    · simp
  have hlen : (chunks t 10).length = ls.length + 3 := by
    have := congrArg List.length hL
    simpa using this
  have hlast : (chunks t 10).getD ((chunks t 10).length - 1) ByteArray.empty = ByteArray.empty := by
    apply bytes_ext
    rw [getD_data, hL, hlen]
    show _ = []
    rw [List.getD_eq_getElem?_getD, show ls.length + 3 - 1 = (firstT rk :: secondT states st :: ls.map lineT).length by simp, List.getElem?_append_right (Nat.le_refl _)]
    simp
  have ha : (chunks ((chunks t 10).getD 0 ByteArray.empty) 32).map (·.data.toList) = tRanks :: rk.map fun r => dg r.toNat := by
    refine chunksL_iff (by simp) ?_ ?_
    · intro p hp
      rcases List.mem_cons.1 hp with rfl | hp
      · decide
      · obtain ⟨r, _, rfl⟩ := List.mem_map.1 hp
        exact dg_not (by decide) _
    · rw [first_join, getD_data, hL]; rfl
  have hb : (chunks ((chunks t 10).getD 1 ByteArray.empty) 32).map (·.data.toList) = [tSt, dg states, tSa, dg st] := by
    refine chunksL_iff (by simp) ?_ ?_
    · intro p hp
      simp only [List.mem_cons, List.not_mem_nil, or_false] at hp
      rcases hp with rfl | rfl | rfl | rfl
      · decide
      · exact dg_not (by decide) _
      · decide
      · exact dg_not (by decide) _
    · rw [second_join, getD_data, hL]; rfl
  unfold getV
  simp only []
  rw [if_pos ⟨by omega, hlast⟩]
  obtain ⟨s, r, ea, e1, e2⟩ := map_cons_inv ha
  obtain ⟨x1, b1, eb, f1, g1⟩ := map_cons_inv hb
  obtain ⟨x2, b2, rfl, f2, g2⟩ := map_cons_inv g1
  obtain ⟨x3, b3, rfl, f3, g3⟩ := map_cons_inv g2
  obtain ⟨x4, b4, rfl, f4, g4⟩ := map_cons_inv g3
  obtain rfl : b4 = [] := by simpa using g4
  rw [ea, eb]
  obtain rfl : s = sRanks := bytes_ext e1
  obtain rfl : x1 = sStates := bytes_ext f1
  obtain rfl : x3 = sStart := bytes_ext f3
  have hok : r.all okW = true := by
    rw [all_okW, e2, List.all_eq_true]
    intro p hp
    obtain ⟨z, hz, rfl⟩ := List.mem_map.1 hp
    obtain ⟨n, hn, rfl⟩ := h.hr z hz
    exact (num_dg hn).1
  have hval : r.map valW = rk := by
    rw [map_valW, e2, List.map_map]
    have : ∀ z ∈ rk, (num0V ∘ fun (r : Int) => dg r.toNat) z = z := by
      intro z hz
      obtain ⟨n, hn, rfl⟩ := h.hr z hz
      exact (num_dg hn).2
    rw [List.map_congr_left this]; simp
  have k2 : okW x2 = true ∧ valW x2 = states := by unfold okW valW; rw [f2]; exact num_dg h.hs
  have k4 : okW x4 = true ∧ valW x4 = st := by unfold okW valW; rw [f4]; exact num_dg h.ht
  have hsec : secOk [x2, sStart, x4] = true := by unfold secOk; simp [k2.1, k4.1]
  rw [if_pos ⟨rfl, by simpa using hok, rfl, by simpa using hsec⟩]
  simp only [List.drop_succ_cons, List.drop_zero, List.getD_cons_succ, List.getD_cons_zero]
  rw [hval, k2.2, k4.2]
  have hm : (((chunks t 10).drop 2).take ((chunks t 10).length - 3)).map (·.data.toList) = ls.map lineT := by
    rw [List.map_take, List.map_drop, hL, hlen]
    simp only [List.cons_append, List.drop_succ_cons, List.drop_zero, Nat.add_sub_cancel]
    rw [List.take_left' (by simp)]
  rw [gstep_of states rk.length ls _ _ _ hm h.hl]
  unfold gramV
  have e7 : (min (states : Int) 7).toNat = min states 7 := by omega
  rw [e7]
theorem okW_list : ∀ r : List ByteArray, r.all okW = true → ∃ rk : List Int, r.map (·.data.toList) = rk.map (fun z => dg z.toNat) ∧ ∀ z ∈ rk, ∃ n : Nat, n ≤ 1000000000 ∧ z = (n : Int)
  | [], _ => ⟨[], rfl, fun z hz => by cases hz⟩
  | s :: r, q2 => by
    rw [List.all_cons, Bool.and_eq_true] at q2
    obtain ⟨rk, h1, h2⟩ := okW_list r q2.2
    obtain ⟨n, hn, e, _⟩ := num_inv (l := s.data.toList) q2.1
    refine ⟨(n : Int) :: rk, by rw [List.map_cons, List.map_cons, h1, e]; rfl, fun z hz => ?_⟩
    rcases List.mem_cons.1 hz with rfl | hz
    · exact ⟨n, hn, rfl⟩
    · exact h2 z hz
theorem getV_inv {t : ByteArray} {v : List Int × Int × Mv} (hv : getV t = some v) : ∃ rk states st ls, GramOk rk states st ls ∧ t.data.toList = gramT rk states st ls := by
  unfold getV at hv
  simp only [] at hv
  split at hv
  case isFalse => cases hv
  case isTrue h0 =>
  obtain ⟨h3, hlast⟩ := h0
  split at hv
  case isFalse => cases hv
  case isTrue h1 =>
  obtain ⟨q1, q2, q3, q4⟩ := h1
  cases hg : gstep (valW ((chunks ((chunks t 10).getD 1 ByteArray.empty) 32).getD 1 ByteArray.empty)) (((chunks ((chunks t 10).getD 0 ByteArray.empty) 32).drop 1).map valW).length (((chunks t 10).drop 2).take ((chunks t 10).length - 3)) (-1) (List.replicate (min (valW ((chunks ((chunks t 10).getD 1 ByteArray.empty) 32).getD 1 ByteArray.empty)) 7).toNat (List.replicate (((chunks ((chunks t 10).getD 0 ByteArray.empty) 32).drop 1).map valW).length [])) with
  | none => rw [hg] at hv; cases hv
  | some M' =>
  obtain ⟨ls, hls, hok⟩ := gstep_inv _ _ _ _ _ _ _ rfl hg
  clear hg hv
  obtain ⟨_, hjoin, _⟩ := chunksL_spec t 10
  obtain ⟨_, hja, _⟩ := chunksL_spec ((chunks t 10).getD 0 ByteArray.empty) 32
  obtain ⟨_, hjb, _⟩ := chunksL_spec ((chunks t 10).getD 1 ByteArray.empty) 32
  unfold chunksL at hjoin hja hjb
  generalize hca : chunks ((chunks t 10).getD 0 ByteArray.empty) 32 = a at *
  generalize hcb : chunks ((chunks t 10).getD 1 ByteArray.empty) 32 = b at *
  generalize chunks t 10 = L at *
  -- the first line
  obtain ⟨r, rfl⟩ : ∃ r, a = sRanks :: r := by
    cases a with
    | nil => cases q1
    | cons s r => simp at q1; exact ⟨r, by rw [q1]⟩
  simp only [List.drop_succ_cons, List.drop_zero] at q2
  obtain ⟨rk, hrk, hrn⟩ := okW_list r q2
  rw [List.map_cons, hrk, sRanks_data, first_join] at hja
  -- the second line
  obtain ⟨b1, rfl⟩ : ∃ b1, b = sStates :: b1 := by
    cases b with
    | nil => cases q3
    | cons s r => simp at q3; exact ⟨r, by rw [q3]⟩
  simp only [List.drop_succ_cons, List.drop_zero] at q4
  obtain ⟨x, y, rfl, hx, hy⟩ : ∃ x y, b1 = [x, sStart, y] ∧ okW x = true ∧ okW y = true := by
    unfold secOk at q4
    split at q4
    · rename_i x m y
      simp only [Bool.and_eq_true, decide_eq_true_eq] at q4
      exact ⟨x, y, by rw [q4.1.1], q4.1.2, q4.2⟩
    · cases q4
  obtain ⟨states, hsn, es, _⟩ := num_inv (l := x.data.toList) hx
  obtain ⟨st, htn, et, _⟩ := num_inv (l := y.data.toList) hy
  simp only [List.map_cons, List.map_nil, sStates_data, sStart_data, es, et] at hjb
  rw [second_join] at hjb
  -- the whole
  refine ⟨rk, states, st, ls, ⟨hrn, hsn, htn, hok⟩, ?_⟩
  rw [← whole_join, ← hjoin]
  congr 1
  rw [getD_data] at hja hjb
  obtain ⟨p0, p1, mid, z, rfl⟩ : ∃ p0 p1 mid z, L = p0 :: p1 :: mid ++ [z] := by
    match L, h3 with
    | p0 :: p1 :: p2 :: rest, _ =>
      exact ⟨p0, p1, (p2 :: rest).dropLast, (p2 :: rest).getLast (by simp), by rw [List.cons_append, List.cons_append, List.dropLast_concat_getLast]⟩
  have hz : z = ByteArray.empty := by
    rw [List.getD_eq_getElem?_getD, show (p0 :: p1 :: mid ++ [z]).length - 1 = (p0 :: p1 :: mid).length by simp, List.getElem?_append_right (Nat.le_refl _)] at hlast
    simpa using hlast
  have hmid : ((p0 :: p1 :: mid ++ [z]).drop 2).take ((p0 :: p1 :: mid ++ [z]).length - 3) = mid := by
    simp
  rw [hmid] at hls
  subst hz
  have hja' : firstT rk = p0.data.toList := hja
  have hjb' : secondT states st = p1.data.toList := hjb
  rw [List.map_append, List.map_cons, List.map_cons, hls, ← hja', ← hjb']
  rfl
end Go.Proofs.YtbmcigakiibncaaGreatDoor.H
namespace Go.Proofs.YtbmcigakiibncaaGreatDoor.H
open Go.RowKit Go.Proofs.YtbmcigakiibncaaGreatDoorW.PrintWords Go.Proofs.YtbmcigakiibncaaGreatDoorW.PrintLast Go.Proofs.YtbmcigakiibncaaGreatDoorW.PrintMore
set_option linter.unusedVariables false
set_option linter.unusedSimpArgs false
def isPre (p l : List UInt8) : Bool := p.isPrefixOf l
theorem isPre_iff {p l : List UInt8} : isPre p l = true ↔ ∃ r, l = p ++ r := by
  unfold isPre
  rw [List.isPrefixOf_iff_prefix]
  constructor
  · rintro ⟨r, h⟩; exact ⟨r, h.symm⟩
  · rintro ⟨r, h⟩; exact ⟨r, h.symm⟩
theorem isPre_take {p l : List UInt8} : isPre p l = decide (p.length ≤ l.length ∧ l.take p.length = p) := by
  rw [Bool.eq_iff_iff, isPre_iff, decide_eq_true_eq]
  constructor
  · rintro ⟨r, rfl⟩; simp
  · rintro ⟨_, h⟩; exact ⟨l.drop p.length, by rw [← h, List.length_take, Nat.min_eq_left (by have := congrArg List.length h; simp at this; omega), List.take_append_drop]⟩
def dgs (l : List UInt8) : List UInt8 := (l.take 11).takeWhile (digs.contains ·)
def dval (l : List UInt8) : Nat := (Lib.decFrom 0 l).getD 0
def numX (d : List UInt8) : Bool := decide (d = []) || decide (1000000000 < dval d) || (decide (1 < d.length) && decide (d.head? = some 48))
theorem dgs_len (l : List UInt8) : (dgs l).length ≤ 11 ∧ (dgs l).length ≤ l.length := by
  unfold dgs
  have h := (List.takeWhile_sublist (p := (digs.contains ·)) (l := l.take 11)).length_le
  rw [List.length_take] at h
  omega
theorem dgs_take (l : List UInt8) : l.take (dgs l).length = dgs l := by
  have h1 : dgs l <+: l := (List.takeWhile_prefix _).trans (List.take_prefix _ _)
  exact (List.prefix_iff_eq_take.1 h1).symm
theorem dgs_digs (l : List UInt8) : ∀ x ∈ dgs l, digs.contains x = true := fun x hx => mem_tw hx
theorem tw_take {α : Type} {p : α → Bool} : ∀ {l : List α} {i : Nat}, i ≤ l.length → (∀ x ∈ l.take i, p x = true) → (∀ h : i < l.length, p l[i] = false) → l.takeWhile p = l.take i
  | [], i, _, _, _ => by simp
  | a :: r, 0, _, _, h => by rw [List.takeWhile_cons, if_neg (by have := h (by simp); simpa using this)]; rfl
  | a :: r, i + 1, hi, h1, h2 => by
    rw [List.takeWhile_cons, if_pos (h1 a (by simp)), List.take_succ_cons, tw_take (by simpa using hi) (fun x hx => h1 x (by rw [List.take_succ_cons]; exact List.mem_cons_of_mem _ hx)) (fun h => by have := h2 (by simpa using h); simpa using this)]
theorem dval_snoc {l : List UInt8} (h : ∀ x ∈ l, digs.contains x = true) {x : UInt8} (hx : digs.contains x = true) : dval (l ++ [x]) = dval l * 10 + (x.toNat - 48) ∧ 48 ≤ x.toNat ∧ x.toNat ≤ 57 := by
  obtain ⟨d, hd, rfl⟩ := digs_to hx
  obtain ⟨n, hn⟩ := dec_some h 0
  have h2 := decFrom_app l _ d (digs_of hd).2 0 n hn
  have e : (UInt8.ofNat (48 + d)).toNat = 48 + d := by
    have : d = 0 ∨ d = 1 ∨ d = 2 ∨ d = 3 ∨ d = 4 ∨ d = 5 ∨ d = 6 ∨ d = 7 ∨ d = 8 ∨ d = 9 := by omega
    rcases this with rfl | rfl | rfl | rfl | rfl | rfl | rfl | rfl | rfl | rfl <;> rfl
  unfold dval
  rw [h2, hn, e]
  exact ⟨by simp, by omega, by omega⟩
theorem dval_lt : ∀ (k : Nat) (l : List UInt8), l.length = k → (∀ x ∈ l, digs.contains x = true) → dval l < 10 ^ k := by
  intro k
  induction k with
  | zero => intro l h _; obtain rfl := List.length_eq_zero_iff.1 h; decide
  | succ k ih =>
    intro l hk hd
    have h0 : l ≠ [] := by intro e; subst e; simp at hk
    obtain ⟨r, x, rfl⟩ : ∃ r x, l = r ++ [x] := ⟨l.dropLast, l.getLast h0, (List.dropLast_concat_getLast h0).symm⟩
    have h1 := ih r (by simpa using hk) (fun x hx => hd x (by simp [hx]))
    obtain ⟨h2, h3, h4⟩ := dval_snoc (l := r) (fun x hx => hd x (by simp [hx])) (hd x (by simp))
    rw [h2, Nat.pow_succ]
    omega
theorem digs_range {x : UInt8} : digs.contains x = true ↔ 48 ≤ x.toNat ∧ x.toNat ≤ 57 := by
  constructor
  · intro h
    exact (dval_snoc (l := []) (fun y hy => by cases hy) h).2
  · rintro ⟨h1, h2⟩
    have e : x = UInt8.ofNat (48 + (x.toNat - 48)) := by
      apply UInt8.toNat_inj.1
      rw [show 48 + (x.toNat - 48) = x.toNat by omega]
      simp
    rw [e]
    exact (digs_of (by omega)).1
theorem dgs_dg {n : Nat} (h : n ≤ 1000000000) {w : List UInt8} (hw : ∀ x, w.head? = some x → digs.contains x = false) : dgs (dg n ++ w) = dg n ∧ dval (dg n) = n ∧ numX (dg n) = false := by
  have hl := dg_length (n := n) (k := 10) (by decide) (by omega)
  have hv : dval (dg n) = n := by unfold dval; rw [dec_dg]; rfl
  refine ⟨?_, hv, ?_⟩
  · unfold dgs
    have e : ((dg n ++ w).take 11).takeWhile (digs.contains ·) = ((dg n ++ w).take 11).take (dg n).length := by
      refine tw_take (by rw [List.length_take, List.length_append]; omega) ?_ ?_
      · intro x hx
        rw [List.take_take, Nat.min_eq_left (by omega), List.take_left] at hx
        exact dg_digs n x hx
      · intro hh
        rw [List.getElem_take]
        rw [List.getElem_append_right (Nat.le_refl _)]
        rw [List.length_take, List.length_append] at hh
        cases w with
        | nil => exfalso; simp at hh
                 omega
        | cons a r => simpa using hw a rfl
    rw [e, List.take_take, Nat.min_eq_left (by omega), List.take_left]
  · unfold numX
    rw [hv, decide_eq_false (dg_ne n), decide_eq_false (by omega)]
    by_cases h10 : n < 10
    · rw [dg_one h10]; simp
    · rw [decide_eq_false (dg_head (show 1 ≤ n by omega))]; simp
theorem numX_inv {d : List UInt8} (hd : ∀ x ∈ d, digs.contains x = true) (h : numX d = false) : d = dg (dval d) ∧ dval d ≤ 1000000000 := by
  unfold numX at h
  simp only [Bool.or_eq_false_iff, decide_eq_false_iff_not] at h
  obtain ⟨⟨h1, h2⟩, h3⟩ := h
  refine ⟨?_, by omega⟩
  by_cases hh : d.head? = some 48
  · rw [decide_eq_true hh, Bool.and_true, decide_eq_false_iff_not] at h3
    cases d with
    | nil => exact absurd rfl h1
    | cons a r =>
      have : r = [] := by cases r with | nil => rfl | cons b r => simp at h3
      subst this
      simp at hh
      subst hh
      rw [show dval [48] = 0 from rfl, dg_one (by decide)]; rfl
  · obtain ⟨n, _, e1, e2⟩ := dec_inv d h1 hd hh
    have : dval d = n := by unfold dval; rw [e1]; rfl
    rw [this, e2]
end Go.Proofs.YtbmcigakiibncaaGreatDoor.H
namespace Go.Proofs.YtbmcigakiibncaaGreatDoor.H
open Go.RowKit Go.Proofs.YtbmcigakiibncaaGreatDoorW.PrintWords Go.Proofs.YtbmcigakiibncaaGreatDoorW.PrintLast Go.Proofs.YtbmcigakiibncaaGreatDoorW.PrintMore
set_option linter.unusedVariables false
set_option linter.unusedSimpArgs false
structure RD (w0 w : World) (g : Nat) (t : ByteArray) (l : List UInt8) (bad : Bool) : Prop where
  isr : Q.IsS99 w0 w g t ((t.size - l.length : Nat) : Int) bad
  suf : ∃ p, t.data.toList = p ++ l
theorem suf_len {t : ByteArray} {p l : List UInt8} (h : t.data.toList = p ++ l) : t.size = p.length + l.length := by rw [Lib.size_eq, h, List.length_append]
theorem suf_at {t : ByteArray} {p l : List UInt8} (h : t.data.toList = p ++ l) : t.size - l.length = p.length := by have := suf_len h; omega
theorem suf_drop {t : ByteArray} {l : List UInt8} (h : ∃ p, t.data.toList = p ++ l) (n : Nat) : ∃ p, t.data.toList = p ++ l.drop n := by
  obtain ⟨p, h⟩ := h
  exact ⟨p ++ l.take n, by rw [List.append_assoc, List.take_append_drop]; exact h⟩
theorem bt_suf {t : ByteArray} {p l : List UInt8} (h : t.data.toList = p ++ l) {i : Nat} (hi : i < l.length) : bt t ((p.length : Int) + (i : Int)) = ((l[i].toNat : Nat) : Int) := by
  have hs := suf_len h
  have e : ((p.length : Int) + (i : Int)).toNat = p.length + i := by omega
  unfold bt
  rw [dif_pos (by omega)]
  congr 2
  have h2 : t.data.toList[p.length + i]? = some l[i] := by rw [h, List.getElem?_append_right (by omega), Nat.add_sub_cancel_left, List.getElem?_eq_getElem hi]
  have hn : p.length + i < t.data.toList.length := by rw [h, List.length_append]; omega
  have h4 : t.data.toList[p.length + i] = l[i] := Option.some.inj ((List.getElem?_eq_getElem hn).symm.trans h2)
  rw [← h4]
  have key : ∀ (n : Nat) (hn1 : n < t.size) (m : Nat) (hm : m < t.data.toList.length), n = m → t[n]'hn1 = t.data.toList[m] := by
    intro n hn1 m hm e; subst e; rfl
  exact key _ _ _ _ e
def isD (p l : List UInt8) : List UInt8 := if isPre p l = true then l.drop p.length else l
theorem is_val {t what : ByteArray} {l : List UInt8} (h : ∃ p, t.data.toList = p ++ l) (hs : t.size ≤ 65536) (hw : what.size ≤ 100) (bad : Bool) :
    Q.virgationref09_reader_is.f t ((t.size - l.length : Nat) : Int) bad what = some (isPre what.data.toList l, t, ((t.size - (isD what.data.toList l).length : Nat) : Int), bad) := by
  obtain ⟨p, h⟩ := h
  have hl := suf_len h
  rw [suf_at h]
  have hwl : what.data.toList.length = what.size := (Lib.size_eq what).symm
  unfold Q.virgationref09_reader_is.f isD
  rw [wr_id (x := (t.size : Int) - (p.length : Int)) (by omega) (by omega), isPre_take, hwl]
  by_cases h1 : l.length < what.size
  · rw [if_pos (by omega), decide_eq_false (by omega)]
    simp only [Bool.false_eq_true, if_false]
    rw [suf_at h]
  · rw [if_neg (by omega), if_pos (by omega), wr_id (by omega) (by omega), if_pos (by omega), if_pos (by omega)]
    have e : (t.extract ((p.length : Int)).toNat ((p.length : Int) + (what.size : Int)).toNat).toList = l.take what.size := by
      rw [Lib.extract_toList, h]
      rw [Int.toNat_natCast, List.drop_left, show ((p.length : Int) + (what.size : Int)).toNat - p.length = what.size by omega]
    rw [e, Lib.toList_data]
    by_cases h2 : l.take what.size = what.data.toList
    · rw [if_pos h2, decide_eq_true ⟨by omega, h2⟩, if_pos rfl, List.length_drop]
      have e5 : ((t.size - (l.length - what.size) : Nat) : Int) = (p.length : Int) + (what.size : Int) := by omega
      rw [e5]
    · rw [if_neg h2, decide_eq_false (fun x => h2 x.2)]
      simp only [Bool.false_eq_true, if_false]
      rw [suf_at h]
theorem must_val {t what : ByteArray} {l : List UInt8} (h : ∃ p, t.data.toList = p ++ l) (hs : t.size ≤ 65536) (hw : what.size ≤ 100) (bad : Bool) :
    Q.virgationref09_reader_must.f t ((t.size - l.length : Nat) : Int) bad what = some (t, ((t.size - (isD what.data.toList l).length : Nat) : Int), bad || !isPre what.data.toList l) := by
  unfold Q.virgationref09_reader_must.f
  rw [is_val h hs hw]
  simp only [Option.bind_some]
  cases isPre what.data.toList l with
  | true => rw [if_pos rfl]; simp
  | false => simp
theorem isD_suf {t : ByteArray} {l : List UInt8} (h : ∃ p, t.data.toList = p ++ l) (q : List UInt8) : ∃ p, t.data.toList = p ++ isD q l := by
  unfold isD
  split
  · exact suf_drop h _
  · exact h
theorem rd_is {w0 w : World} {g : Nat} {t : ByteArray} {l : List UInt8} {bad : Bool} (h : RD w0 w g t l bad) (hs : t.size ≤ 65536) (what : ByteArray) (hw : what.size ≤ 100) (hB : Below w0.heap.size w0 w) :
    Calls Tryz.prog 65 #[.pointer (some ⟨g, 0, none⟩), .string what] w fun e w' => e = .returned (.bool (isPre what.data.toList l)) ∧ RD w0 w' g t (isD what.data.toList l) bad ∧ Below w0.heap.size w0 w' ∧ KeepBut w w' g none :=
  (Q.virgationref09_reader_is.calls g t _ bad what _ _ _ _ w0 w h.isr hB (is_val h.suf hs hw bad)).mono fun e w' k => ⟨k.1, ⟨k.2.1, isD_suf h.suf _⟩, k.2.2⟩
theorem rd_must {w0 w : World} {g : Nat} {t : ByteArray} {l : List UInt8} {bad : Bool} (h : RD w0 w g t l bad) (hs : t.size ≤ 65536) (what : ByteArray) (hw : what.size ≤ 100) (hB : Below w0.heap.size w0 w) :
    Calls Tryz.prog 64 #[.pointer (some ⟨g, 0, none⟩), .string what] w fun e w' => e = .returned (.tuple #[]) ∧ RD w0 w' g t (isD what.data.toList l) (bad || !isPre what.data.toList l) ∧ Below w0.heap.size w0 w' ∧ KeepBut w w' g none :=
  (Q.virgationref09_reader_must.calls g t _ bad what _ _ _ w0 w h.isr hB (must_val h.suf hs hw bad)).mono fun e w' k => ⟨k.1, ⟨k.2.1, isD_suf h.suf _⟩, k.2.2⟩
theorem num_end {t : ByteArray} {p l : List UInt8} (h : t.data.toList = p ++ l) (hs : t.size ≤ 65536) (bad : Bool) {i : Nat} (hi : i ≤ l.length) :
    (if ((p.length : Int) + (i : Int)) = (p.length : Int) then (some ((dval (l.take i) : Int), t, ((p.length : Int) + (i : Int)), true)) else (if (dval (l.take i) : Int) > 1000000000 then (some ((dval (l.take i) : Int), t, ((p.length : Int) + (i : Int)), true)) else (if ((p.length : Int) + (i : Int)) > (wrap64 ((p.length : Int) + 1)) then (if 0 ≤ (p.length : Int) then (if (p.length : Int) < (t.size : Int) then (if (bt t (p.length : Int)) = 48 then (some ((dval (l.take i) : Int), t, ((p.length : Int) + (i : Int)), true)) else (some ((dval (l.take i) : Int), t, ((p.length : Int) + (i : Int)), bad))) else (none)) else (none)) else (some ((dval (l.take i) : Int), t, ((p.length : Int) + (i : Int)), bad)))))
      = some ((dval (l.take i) : Int), t, ((p.length : Int) + (i : Int)), bad || numX (l.take i)) := by
  have hl := suf_len h
  have hti : (l.take i).length = i := by rw [List.length_take]; omega
  unfold numX
  by_cases h0 : i = 0
  · subst h0
    rw [if_pos (by simp)]
    simp
  · have hne : l.take i ≠ [] := fun e => by rw [e] at hti; simp at hti; omega
    rw [if_neg (by omega), decide_eq_false hne, hti, Bool.false_or]
    by_cases hb : 1000000000 < dval (l.take i)
    · rw [if_pos (by omega), decide_eq_true hb]
      simp
    · rw [if_neg (by omega), decide_eq_false hb, Bool.false_or, wr_id (by omega) (by omega)]
      by_cases h1 : 1 < i
      · rw [if_pos (by omega), if_pos (by omega), if_pos (by omega), decide_eq_true h1, Bool.true_and]
        have hb0 := bt_suf h (i := 0) (by omega)
        rw [Int.natCast_zero, Int.add_zero] at hb0
        rw [hb0]
        have hh : (l.take i).head? = some l[0] := by
          cases l with
          | nil => simp at hi; omega
          | cons a r =>
            obtain ⟨m, rfl⟩ : ∃ m, i = m + 1 := ⟨i - 1, by omega⟩
            rfl
        rw [hh]
        by_cases h48 : l[0] = 48
        · rw [h48, if_pos (by rfl)]; simp
        · rw [if_neg (fun e => h48 (UInt8.toNat_inj.1 (by have : l[0].toNat = 48 := by omega
                                                          rw [this]; rfl)))]
          simp [h48]
      · rw [if_neg (by omega), decide_eq_false h1]
        simp
theorem num_loop {t : ByteArray} {p l : List UInt8} (h : t.data.toList = p ++ l) (hs : t.size ≤ 65536) (bad : Bool) (d : Nat) : ∀ i : Nat, 11 - i = d → i ≤ 11 → i ≤ l.length → (∀ x ∈ l.take i, digs.contains x = true) →
    Ev (fun k => Q.virgationref09_reader_number.l0 k (dval (l.take i) : Int) (p.length : Int) t ((p.length : Int) + (i : Int)) bad) ((dval (dgs l) : Int), t, ((p.length : Int) + ((dgs l).length : Int)), bad || numX (dgs l)) := by
  have hl := suf_len h
  have stop : ∀ i : Nat, i ≤ 11 → i ≤ l.length → (∀ x ∈ l.take i, digs.contains x = true) → (i = 11 ∨ ∀ hh : i < l.length, digs.contains l[i] = false) → dgs l = l.take i := by
    intro i h11 hil hd hc
    unfold dgs
    have e := tw_take (p := (digs.contains ·)) (l := l.take 11) (i := i) (by rw [List.length_take]; omega) (by rw [List.take_take, Nat.min_eq_left h11]; exact hd) (fun hh => by
      rw [List.length_take] at hh
      rcases hc with rfl | hc
      · omega
      · rw [List.getElem_take]; exact hc (by omega))
    rw [e, List.take_take, Nat.min_eq_left h11]
  have fin : ∀ i : Nat, i ≤ 11 → i ≤ l.length → (∀ x ∈ l.take i, digs.contains x = true) → (i = 11 ∨ ∀ hh : i < l.length, digs.contains l[i] = false) →
      Ev (fun k => Q.virgationref09_reader_number.l0 k (dval (l.take i) : Int) (p.length : Int) t ((p.length : Int) + (i : Int)) bad) ((dval (dgs l) : Int), t, ((p.length : Int) + ((dgs l).length : Int)), bad || numX (dgs l)) := by
    intro i h11 hil hd hc
    have hti : (l.take i).length = i := by rw [List.length_take]; omega
    rw [stop i h11 hil hd hc, hti]
    refine ev_end fun k => ?_
    have ne := num_end h hs bad hil
    simp only [Q.virgationref09_reader_number.l0]
    by_cases c1 : i < l.length
    · rw [if_pos (by omega), if_pos (by omega), bt_suf h c1]
      by_cases c2 : 48 ≤ l[i].toNat
      · rw [if_pos (by omega)]
        by_cases c3 : l[i].toNat ≤ 57
        · have h11' : i = 11 := by
            rcases hc with hc | hc
            · exact hc
            · have := hc c1
              rw [digs_range.2 ⟨c2, c3⟩] at this; cases this
          rw [if_pos (by omega), wr_id (by omega) (by omega), if_neg (by omega)]
          exact ne
        · rw [if_neg (by omega)]; exact ne
      · rw [if_neg (by omega)]; exact ne
    · rw [if_neg (by omega)]; exact ne
  induction d with
  | zero =>
    intro i hd h11 hil hdg
    exact fin i h11 hil hdg (.inl (by omega))
  | succ d ih =>
    intro i hd h11 hil hdg
    by_cases c1 : i < l.length
    · cases c2 : digs.contains l[i] with
      | false => exact fin i h11 hil hdg (.inr fun _ => c2)
      | true =>
        have ht : l.take (i + 1) = l.take i ++ [l[i]] := by rw [List.take_add_one, List.getElem?_eq_getElem c1]; rfl
        have hdg' : ∀ x ∈ l.take (i + 1), digs.contains x = true := by
          intro x hx
          rw [ht] at hx
          rcases List.mem_append.1 hx with hx | hx
          · exact hdg x hx
          · obtain rfl := List.mem_singleton.1 hx; exact c2
        obtain ⟨v1, v2, v3⟩ := dval_snoc hdg c2
        have hb := dval_lt i (l.take i) (by rw [List.length_take]; omega) hdg
        have hb2 : dval (l.take i) < 100000000000 := Nat.lt_of_lt_of_le hb (by rw [show (100000000000 : Nat) = 10 ^ 11 from rfl]; exact Nat.pow_le_pow_right (by decide) (by omega))
        refine ev_next (ih (i + 1) (by omega) (by omega) (by omega) hdg') fun k => ?_
        simp only [Q.virgationref09_reader_number.l0]
        rw [if_pos (by omega), if_pos (by omega), bt_suf h c1, if_pos (by omega), if_pos (by omega), wr_id (x := (p.length : Int) + (i : Int) - (p.length : Int)) (by omega) (by omega), if_pos (by omega)]
        have e1 : wrap64 ((p.length : Int) + (i : Int) + 1) = (p.length : Int) + ((i + 1 : Nat) : Int) := by rw [wr_id (by omega) (by omega)]; push_cast; omega
        have e2 : wrap64 (wrap64 (10 * (dval (l.take i) : Int)) + (((l[i].toNat : Nat) : Int) - 48) % 256) = (dval (l.take (i + 1)) : Int) := by
          rw [ht, v1]
          rw [wr_id (x := 10 * (dval (l.take i) : Int)) (by omega) (by omega), wr_id (by omega) (by omega)]
          omega
        rw [e1, e2]
    · exact fin i h11 hil hdg (.inr fun hh => absurd hh c1)
theorem rd_number {w0 w : World} {g : Nat} {t : ByteArray} {l : List UInt8} {bad : Bool} (h : RD w0 w g t l bad) (hs : t.size ≤ 65536) (hB : Below w0.heap.size w0 w) :
    Calls Tryz.prog 66 #[.pointer (some ⟨g, 0, none⟩)] w fun e w' => e = .returned (.int .i64 (dval (dgs l) : Int)) ∧ RD w0 w' g t (l.drop (dgs l).length) (bad || numX (dgs l)) ∧ Below w0.heap.size w0 w' ∧ KeepBut w w' g none := by
  obtain ⟨p, hp⟩ := h.suf
  have hl := suf_len hp
  have e := num_loop hp hs bad 11 0 rfl (by omega) (by omega) (fun x hx => by cases hx)
  have e2 : Ev (fun k => Q.virgationref09_reader_number.f k t ((t.size - l.length : Nat) : Int) bad) ((dval (dgs l) : Int), t, ((p.length : Int) + ((dgs l).length : Int)), bad || numX (dgs l)) := by
    refine Ev.congr (fun k => ?_) e
    unfold Q.virgationref09_reader_number.f
    rw [suf_at hp]
    simp [dval, Lib.decFrom]
  obtain ⟨k, hk⟩ := e2.rounds
  refine (Q.virgationref09_reader_number.calls k g t _ bad _ _ _ _ w0 w h.isr hB hk).mono fun e w' q => ⟨q.1, ⟨?_, suf_drop h.suf _⟩, q.2.2⟩
  have hd := (dgs_len l).2
  have e3 : ((t.size - (l.drop (dgs l).length).length : Nat) : Int) = (p.length : Int) + ((dgs l).length : Int) := by
    rw [List.length_drop]; omega
  rw [e3]
  exact q.2.1
end Go.Proofs.YtbmcigakiibncaaGreatDoor.H
namespace Go.Proofs.YtbmcigakiibncaaGreatDoor.H
open Go.RowKit Go.Proofs.YtbmcigakiibncaaGreatDoorW.PrintWords Go.Proofs.YtbmcigakiibncaaGreatDoorW.PrintLast Go.Proofs.YtbmcigakiibncaaGreatDoorW.PrintMore
set_option linter.unusedVariables false
set_option linter.unusedSimpArgs false
def kRow (m : Nat) : Kd Nat := Kd.scalar (fun g => .slice (some ⟨g, 0, none⟩) m m) (fun _ => rfl)
theorem R_other {α : Type} {d : Kd α} {e : Nat} {w w1 : World} {base : Nat} {ok : Nat → Prop} {v : Value} {xs : List α} (h : d.R e w base ok v xs) (b : Nat) (hb : v.ownBlock ≠ some b)
    (ht : ∀ q ∈ d.E, ∀ cells, w.heap[b]? ≠ some (.cells cells q (0, 0))) (hm : ∀ k, k ≠ b → k < w.heap.size → w1.heap[k]? = w.heap[k]?) : d.R e w1 base ok v xs := by
  obtain ⟨h0, inner, ho, hr⟩ := h
  refine ⟨h0, inner, own_move ho (fun k hk => hm k (fun hkb => hb (by rw [hk, hkb])) (own_lt ho k hk)), hr.imp_ (fun _ _ hp => ?_)⟩
  refine d.M_mono (fun k hk => hk.1) (d.M_move (fun k hk => ?_) (d.M_bound hp))
  obtain ⟨_, _, hlt, q, hq, cells, hc⟩ := hk
  exact hm k (fun hkb => ht q hq cells (by rw [← hkb]; exact hc)) hlt
theorem R_same {α : Type} {d : Kd α} {e : Nat} {w w1 : World} {base : Nat} {ok : Nat → Prop} {v : Value} {xs : List α} (h : d.R e w base ok v xs) (hm : ∀ k, ok k → k < w.heap.size → w1.heap[k]? = w.heap[k]?) : d.R e w1 base ok v xs := Kd.R_step h hm
structure MM (b0 B : Nat) (W : World) (v : Value) (M : Mv) (m : Nat) (gs : List Nat) (u : Nat → Nat → Value) : Prop where
  len : gs.length = M.length
  row : (kRow m).R 65 W b0 (fun k => B ≤ k) v gs
  rows : ∀ q, q < M.length → B ≤ gs.getD q 0 ∧ W.heap[gs.getD q 0]? = some (.cells ((List.range m).map (u q)).toArray 66 (0, 0)) ∧ (M.getD q []).length = m
  inj : ∀ q q', q < M.length → q' < M.length → q ≠ q' → gs.getD q 0 ≠ gs.getD q' 0
  alts : ∀ q f, q < M.length → f < m → kA1.R 69 W b0 (fun k => B ≤ k) (u q f) ((M.getD q []).getD f [])
  sep : ∀ q f q' f', q < M.length → f < m → q' < M.length → f' < m → (q ≠ q' ∨ f ≠ f') → ∀ k, (u q f).ownBlock = some k → (u q' f').ownBlock ≠ some k
theorem MM.start (b0 B : Nat) (W : World) (m : Nat) : MM b0 B W (.slice none 0 0) [] m [] (fun _ _ => .slice none 0 0) :=
  ⟨rfl, Kd.R_nil _ _ _ _ _, fun _ h => absurd h (Nat.not_lt_zero _), fun _ _ h => absurd h (Nat.not_lt_zero _), fun _ _ h => absurd h (Nat.not_lt_zero _), fun _ _ _ _ h => absurd h (Nat.not_lt_zero _)⟩
theorem MM.move {b0 B : Nat} {W W1 : World} {v : Value} {M : Mv} {m : Nat} {gs : List Nat} {u : Nat → Nat → Value} (h : MM b0 B W v M m gs u) (hm : ∀ k, B ≤ k → k < W.heap.size → W1.heap[k]? = W.heap[k]?) : MM b0 B W1 v M m gs u :=
  ⟨h.len, R_same h.row hm, fun q hq => ⟨(h.rows q hq).1, (hm _ (h.rows q hq).1 (blk_lt (h.rows q hq).2.1)).trans (h.rows q hq).2.1, (h.rows q hq).2.2⟩, h.inj, fun q f hq hf => R_same (h.alts q f hq hf) hm, h.sep⟩
theorem MM.below {b0 B : Nat} {W W1 : World} {v : Value} {M : Mv} {m : Nat} {gs : List Nat} {u : Nat → Nat → Value} (h : MM b0 B W v M m gs u) (hb : Below W.heap.size W W1) : MM b0 B W1 v M m gs u := h.move fun k _ hk => hb.block k hk
theorem MM.far {b0 B : Nat} {W : World} {v : Value} {M : Mv} {m : Nat} {gs : List Nat} {u : Nat → Nat → Value} (h : MM b0 B W v M m gs u) {a j : Nat} (ha : a < B) (x : Value) : MM b0 B (W.setCell ⟨a, j, none⟩ x) v M m gs u :=
  h.move fun k hk _ => Below.heap_setCell W ⟨a, j, none⟩ x k (by show k ≠ a; omega)
theorem ownBlock_typed {α : Type} {d : Kd α} {e : Nat} {w : World} {base : Nat} {ok : Nat → Prop} {v : Value} {xs : List α} (h : d.R e w base ok v xs) {k : Nat} (hk : v.ownBlock = some k) : (∃ cells, w.heap[k]? = some (.cells cells e (0, 0))) ∧ k < w.heap.size := by
  obtain ⟨_, inner, ho, _⟩ := h
  exact ⟨own_typed ho k hk, own_lt ho k hk⟩
theorem types_ne {w : World} {a b : Nat} {ca cb : Array Value} {ta tb : Nat} {x : Nat × Nat} (ha : w.heap[a]? = some (.cells ca ta x)) (hb : w.heap[b]? = some (.cells cb tb x)) (h : ta ≠ tb) : a ≠ b := by
  intro e
  subst e
  rw [ha] at hb
  injection hb with hb
  injection hb with _ h2 _
  exact h h2
theorem getD_app {α : Type} (l : List α) (x d : α) (q : Nat) : (l ++ [x]).getD q d = if q = l.length then x else l.getD q d := by
  by_cases h : q = l.length
  · subst h; simp
  · rw [if_neg h]
    by_cases h2 : q < l.length
    · simp [List.getD_eq_getElem?_getD, List.getElem?_append_left h2]
    · have h3 : l.length + 1 ≤ q := by omega
      simp [List.getD_eq_getElem?_getD, List.getElem?_eq_none (show (l ++ [x]).length ≤ q by simp; omega), List.getElem?_eq_none (show l.length ≤ q by omega)]
theorem MM.push {b0 B : Nat} {W W1 : World} {v v1 : Value} {M : Mv} {m : Nat} {gs : List Nat} {u : Nat → Nat → Value} (h : MM b0 B W v M m gs u) (g : Nat) (hg : W.heap[g]? = some (.cells (Array.replicate m (.slice none 0 0)) 66 (0, 0))) (hgB : B ≤ g) (hnew : ∀ q, q < M.length → gs.getD q 0 ≠ g)
    (hr : (kRow m).R 65 W1 b0 (fun k => B ≤ k) v1 (gs ++ [g])) (hw : W.grownBy W1 v.ownBlock) : MM b0 B W1 v1 (M ++ [List.replicate m []]) m (gs ++ [g]) (fun q f => if q = M.length then .slice none 0 0 else u q f) := by
  have ho : ∀ k, v.ownBlock = some k → ∃ cells, W.heap[k]? = some (.cells cells 65 (0, 0)) := fun k hk => (ownBlock_typed h.row hk).1
  have hkeep : ∀ (k : Nat) (cells : Array Value) (t : Nat), W.heap[k]? = some (Obj.cells cells t (0, 0)) → t ≠ 65 → W1.heap[k]? = some (Obj.cells cells t (0, 0)) := by
    intro k cells t hk ht
    refine blk_grown hk hw (fun e => ?_)
    obtain ⟨c2, h2⟩ := ho k e.symm
    exact types_ne hk h2 ht rfl
  have hlen : (M ++ [List.replicate m ([] : List (List Nd))]).length = M.length + 1 := by simp
  have hd : ∀ q, (gs ++ [g]).getD q 0 = if q = M.length then g else gs.getD q 0 := fun q => by rw [getD_app, h.len]
  have hMd : ∀ q, (M ++ [List.replicate m ([] : List (List Nd))]).getD q [] = if q = M.length then List.replicate m [] else M.getD q [] := fun q => getD_app _ _ _ _
  refine ⟨by simp [h.len], hr, fun q hq => ?_, fun q q' hq hq' hne => ?_, fun q f hq hf => ?_, fun q f q' f' hq hf hq' hf' hne k hk => ?_⟩
  · rw [hd, hMd]
    by_cases e : q = M.length
    · rw [if_pos e, if_pos e]
      refine ⟨hgB, ?_, by simp⟩
      have : ((List.range m).map fun f => if q = M.length then (Value.slice none 0 0) else u q f).toArray = Array.replicate m (.slice none 0 0) := by
        simp only [if_pos e]
        apply Array.ext <;> simp
      rw [this]
      exact hkeep _ _ _ hg (by decide)
    · rw [if_neg e, if_neg e]
      have hq2 : q < M.length := by omega
      have : ((List.range m).map fun f => if q = M.length then (Value.slice none 0 0) else u q f).toArray = ((List.range m).map (u q)).toArray := by simp only [if_neg e]
      rw [this]
      exact ⟨(h.rows q hq2).1, hkeep _ _ _ (h.rows q hq2).2.1 (by decide), (h.rows q hq2).2.2⟩
  · rw [hd, hd]
    by_cases e : q = M.length <;> by_cases e' : q' = M.length
    · omega
    · rw [if_pos e, if_neg e']; exact fun x => hnew q' (by omega) x.symm
    · rw [if_neg e, if_pos e']; exact hnew q (by omega)
    · rw [if_neg e, if_neg e']; exact h.inj q q' (by omega) (by omega) hne
  · rw [hMd]
    by_cases e : q = M.length
    · simp only [if_pos e]
      rw [show (List.replicate m ([] : List (List Nd))).getD f [] = [] by simp [List.getD_eq_getElem?_getD, hf]]
      exact Kd.R_nil _ _ _ _ _
    · simp only [if_neg e]
      have h1 := h.alts q f (by omega) hf
      cases hob : v.ownBlock with
      | none => exact R_same h1 (fun k hk hlt => hw.block k hlt (by rw [hob]; exact fun x => by cases x))
      | some b =>
        obtain ⟨cb, hcb⟩ := ho b hob
        refine R_other h1 b (fun x => ?_) (fun t ht cells hc => ?_) (fun k hk hlt => hw.block k hlt (by rw [hob]; exact fun x => hk (Option.some.inj x)))
        · obtain ⟨⟨c2, h2⟩, _⟩ := ownBlock_typed h1 x
          exact types_ne h2 hcb (by decide) rfl
        · have : t = 83 := by simpa [kA1, Kd.slice, Q.k83, Kd.iso, Kd.pair, Kd.int, Kd.scalar] using ht
          exact types_ne hc hcb (by rw [this]; decide) rfl
  · by_cases e : q = M.length
    · rw [if_pos e] at hk; cases hk
    · rw [if_neg e] at hk
      by_cases e' : q' = M.length
      · rw [if_pos e']; exact fun x => by cases x
      · rw [if_neg e']
        exact h.sep q f q' f' (by omega) hf (by omega) hf' hne k hk
theorem addAlt_len (M : Mv) (q f : Nat) (z : List Nd) : (addAlt M q f z).length = M.length := by unfold addAlt; simp
theorem addAlt_row {M : Mv} {q f : Nat} {z : List Nd} (hq : q < M.length) (q' : Nat) : (addAlt M q f z).getD q' [] = if q' = q then (M.getD q []).set f ((M.getD q []).getD f [] ++ [z]) else M.getD q' [] := by
  unfold addAlt
  by_cases e : q' = q
  · rw [if_pos e, e]; simp [List.getD_eq_getElem?_getD, hq]
  · rw [if_neg e]
    simp [List.getD_eq_getElem?_getD, List.getElem?_set, if_neg (fun h : q = q' => e h.symm)]
theorem setD {α : Type} {l : List α} {f : Nat} (hf : f < l.length) (x d : α) (f' : Nat) : (l.set f x).getD f' d = if f' = f then x else l.getD f' d := by
  by_cases e : f' = f
  · rw [if_pos e, e]; simp [List.getD_eq_getElem?_getD, hf]
  · rw [if_neg e]
    simp [List.getD_eq_getElem?_getD, List.getElem?_set, if_neg (fun h : f = f' => e h.symm)]
theorem MM.add {b0 B : Nat} {W W1 : World} {v : Value} {M : Mv} {m : Nat} {gs : List Nat} {u : Nat → Nat → Value} (h : MM b0 B W v M m gs u) {q f : Nat} (hq : q < M.length) (hf : f < m) (z : List Nd) (v1 : Value)
    (hr : kA1.R 69 W1 b0 (fun k => B ≤ k) v1 ((M.getD q []).getD f [] ++ [z])) (hw : W.grownBy W1 (u q f).ownBlock) (hat : v1.ownBlock = (u q f).ownBlock ∨ ∃ b, v1.ownBlock = some b ∧ W.heap.size ≤ b) :
    MM b0 B (W1.setCell ⟨gs.getD q 0, f, none⟩ v1) v (addAlt M q f z) m gs (fun a b => if a = q ∧ b = f then v1 else u a b) := by
  have hrq := h.rows q hq
  have hown : ∀ k, (u q f).ownBlock = some k → ∃ cells, W.heap[k]? = some (Obj.cells cells 69 (0, 0)) := fun k hk => (ownBlock_typed (h.alts q f hq hf) hk).1
  have hkeep : ∀ (k : Nat) (cells : Array Value) (t : Nat), W.heap[k]? = some (Obj.cells cells t (0, 0)) → t ≠ 69 → W1.heap[k]? = some (Obj.cells cells t (0, 0)) := by
    intro k cells t hk ht
    refine blk_grown hk hw (fun e => ?_)
    obtain ⟨c2, h2⟩ := hown k e.symm
    exact types_ne hk h2 ht rfl
  have hg1 := hkeep _ _ _ hrq.2.1 (by decide)
  have hset : ∀ k, k ≠ gs.getD q 0 → (W1.setCell ⟨gs.getD q 0, f, none⟩ v1).heap[k]? = W1.heap[k]? := fun k hk => Below.heap_setCell W1 _ _ k hk
  have h83 : ∀ t ∈ kA1.E, t = 83 := fun t ht => by simpa [kA1, Kd.slice, Q.k83, Kd.iso, Kd.pair, Kd.int, Kd.scalar] using ht
  have hsize : W.heap.size ≤ W1.heap.size := hw.size
  refine ⟨by rw [addAlt_len]; exact h.len, ?_, fun a ha => ?_, fun a a' ha ha' hne => h.inj a a' (by rw [addAlt_len] at ha; exact ha) (by rw [addAlt_len] at ha'; exact ha') hne, fun a b ha hb => ?_, fun a b a' b' ha hb ha' hb' hne k hk => ?_⟩
  · have h1 : (kRow m).R 65 W1 b0 (fun k => B ≤ k) v gs := by
      cases hob : (u q f).ownBlock with
      | none => exact R_same h.row (fun k hk hlt => hw.block k hlt (by rw [hob]; exact fun x => by cases x))
      | some b =>
        obtain ⟨cb, hcb⟩ := hown b hob
        refine R_other h.row b (fun x => ?_) (fun t ht => by simp [kRow, Kd.scalar] at ht) (fun k hk hlt => hw.block k hlt (by rw [hob]; exact fun x => hk (Option.some.inj x)))
        obtain ⟨⟨c2, h2⟩, _⟩ := ownBlock_typed h.row x
        exact types_ne h2 hcb (by decide) rfl
    refine R_other h1 (gs.getD q 0) (fun x => ?_) (fun t ht => by simp [kRow, Kd.scalar] at ht) (fun k hk _ => hset k hk)
    obtain ⟨⟨c2, h2⟩, _⟩ := ownBlock_typed h1 x
    exact types_ne h2 hg1 (by decide) rfl
  · rw [addAlt_len] at ha
    have hra := h.rows a ha
    rw [addAlt_row hq]
    by_cases e : a = q
    · subst e
      rw [if_pos rfl]
      refine ⟨hra.1, ?_, by rw [List.length_set]; exact hra.2.2⟩
      have h1 := blk_set hg1 f v1
      rw [h1]
      congr 1
      have : (((List.range m).map (u a)).toArray).setIfInBounds f v1 = ((List.range m).map fun b => if a = a ∧ b = f then v1 else u a b).toArray := by
        apply Array.ext
        · simp
        · intro i hi1 hi2
          by_cases hif : f = i
          · subst hif; simp
          · simp [List.getElem_set]
            rw [if_neg hif, if_neg (fun x => hif x.symm)]
      rw [this]
    · rw [if_neg e]
      refine ⟨hra.1, ?_, hra.2.2⟩
      rw [hset _ (h.inj a q ha hq e)]
      have : ((List.range m).map fun b => if a = q ∧ b = f then v1 else u a b).toArray = ((List.range m).map (u a)).toArray := by simp [e]
      rw [this]
      exact hkeep _ _ _ hra.2.1 (by decide)
  · rw [addAlt_len] at ha
    rw [addAlt_row hq]
    have hfar : ∀ {x : Value} {xs : List (List Nd)}, kA1.R 69 W1 b0 (fun k => B ≤ k) x xs → kA1.R 69 (W1.setCell ⟨gs.getD q 0, f, none⟩ v1) b0 (fun k => B ≤ k) x xs := by
      intro x xs hx
      refine R_other hx (gs.getD q 0) (fun y => ?_) (fun t ht cells hc => ?_) (fun k hk _ => hset k hk)
      · obtain ⟨⟨c2, h2⟩, _⟩ := ownBlock_typed hx y
        exact types_ne h2 hg1 (by decide) rfl
      · exact types_ne hc hg1 (by rw [h83 t ht]; decide) rfl
    by_cases e : a = q ∧ b = f
    · obtain ⟨rfl, rfl⟩ := e
      rw [if_pos rfl, if_pos ⟨rfl, rfl⟩, setD (by rw [hrq.2.2]; exact hf), if_pos rfl]
      exact hfar hr
    · rw [if_neg e]
      have e2 : (if a = q then (M.getD q []).set f ((M.getD q []).getD f [] ++ [z]) else M.getD a []).getD b [] = (M.getD a []).getD b [] := by
        by_cases ea : a = q
        · subst ea
          rw [if_pos rfl, setD (by rw [hrq.2.2]; exact hf), if_neg (fun x => e ⟨rfl, x⟩)]
        · rw [if_neg ea]
      rw [e2]
      have h1 := h.alts a b ha hb
      refine hfar ?_
      cases hob : (u q f).ownBlock with
      | none => exact R_same h1 (fun k hk hlt => hw.block k hlt (by rw [hob]; exact fun x => by cases x))
      | some b0 =>
        obtain ⟨cb, hcb⟩ := hown b0 hob
        refine R_other h1 b0 (fun x => ?_) (fun t ht cells hc => ?_) (fun k hk hlt => hw.block k hlt (by rw [hob]; exact fun x => hk (Option.some.inj x)))
        · exact h.sep q f a b hq hf ha hb (by by_cases ea : q = a; exact .inr (fun x => e ⟨ea.symm, x.symm⟩); exact .inl ea) b0 hob x
        · exact types_ne hc hcb (by rw [h83 t ht]; decide) rfl
  · rw [addAlt_len] at ha ha'
    have hold : ∀ a b, a < M.length → b < m → ∀ k, (u a b).ownBlock = some k → k < W.heap.size := fun a b ha hb k hk => (ownBlock_typed (h.alts a b ha hb) hk).2
    by_cases e : a = q ∧ b = f
    · rw [if_pos e] at hk
      have e' : ¬ (a' = q ∧ b' = f) := fun x => by omega
      rw [if_neg e']
      rcases hat with hat | ⟨b0, hb0, hle⟩
      · rw [hat] at hk
        exact h.sep q f a' b' hq hf ha' hb' (by omega) k hk
      · rw [hb0] at hk
        injection hk with hk
        intro hk'
        have := hold a' b' ha' hb' k hk'
        omega
    · rw [if_neg e] at hk
      by_cases e' : a' = q ∧ b' = f
      · rw [if_pos e']
        intro hk'
        rcases hat with hat | ⟨b0, hb0, hle⟩
        · rw [hat] at hk'
          exact h.sep a b q f ha hb hq hf (by omega) k hk hk'
        · rw [hb0] at hk'
          injection hk' with hk'
          have := hold a b ha hb k hk
          omega
      · rw [if_neg e']
        exact h.sep a b a' b' ha hb ha' hb' hne k hk
theorem MM.reads {b0 B : Nat} {W : World} {v : Value} {M : Mv} {m : Nat} {gs : List Nat} {u : Nat → Nat → Value} (h : MM b0 B W v M m gs u) (hm : m ≤ 9223372036854775807) : ∃ A c, v = .slice A M.length c ∧ M.length ≤ c ∧ Kd.C kA3 W A M.length M := by
  obtain ⟨A, c, rfl⟩ := Kd.R_slice h.row
  have hr := Kd.R_reads' h.row
  refine ⟨A, c, by rw [h.len], by rw [← h.len]; exact hr.2.1, ?_⟩
  have hC := hr.2.2
  rw [h.len] at hC
  obtain ⟨h1, h2, h3⟩ := hC
  refine ⟨rfl, h2, fun h0 => ?_⟩
  obtain ⟨ad, e, hcell⟩ := h3 h0
  refine ⟨ad, e, fun j p hj => ?_⟩
  obtain ⟨hjl, hjp⟩ := List.getElem?_eq_some_iff.1 hj
  obtain ⟨cs, hcs, hK, hx⟩ := hcell j (gs.getD j 0) (by have : j < gs.length := by rw [h.len]; exact hjl
                                                        simp [List.getD_eq_getElem?_getD, this])
  have hrow := h.rows j hjl
  have hp : M.getD j [] = p := by rw [← hjp]; simp [List.getD_eq_getElem?_getD, hjl]
  rw [hp] at hrow
  refine ⟨cs, hcs, ⟨some ⟨gs.getD j 0, 0, none⟩, m, ?_, Nat.le_of_eq hrow.2.2, ⟨rfl, by rw [hrow.2.2]; exact hm, fun _ => ⟨_, rfl, fun i al hi => ?_⟩⟩⟩, hx⟩
  · rw [hrow.2.2]; exact hK
  · obtain ⟨hil, hip⟩ := List.getElem?_eq_some_iff.1 hi
    have him : i < m := by rw [← hrow.2.2]; exact hil
    have hR := h.alts j i hjl him
    rw [hp, show p.getD i [] = al by rw [← hip]; simp [List.getD_eq_getElem?_getD, hil]] at hR
    obtain ⟨A2, c2, e2⟩ := Kd.R_slice hR
    rw [e2] at hR
    have hr2 := Kd.R_reads' hR
    refine ⟨[u j i], rfl, ⟨A2, c2, by rw [e2], hr2.2.1, hr2.2.2⟩, fun x y hy => ?_⟩
    have hx0 : x = 0 := by
      have := (List.getElem?_eq_some_iff.1 hy).1
      simpa using this
    subst hx0
    obtain rfl : u j i = y := by simpa using hy
    have hc := blk_cell hrow.2.1 i
    have e3 : (Addr.add ⟨gs.getD j 0, 0, none⟩ (i * kA2.sz + 0)) = ⟨gs.getD j 0, i, none⟩ := by
      rw [show kA2.sz = 1 from rfl, Nat.mul_one, Nat.add_zero]
      simp [Addr.add]
      exact fun h => h.symm
    rw [e3, hc]
    simp [him]
end Go.Proofs.YtbmcigakiibncaaGreatDoor.H
namespace Go.Proofs.YtbmcigakiibncaaGreatDoor.H
open Go.RowKit
set_option linter.unusedVariables false
set_option linter.unusedSimpArgs false
def zeroM (n m : Nat) : Mv := List.replicate n (List.replicate m [])
theorem zeroM_row {n m q : Nat} (h : q < n) : (zeroM n m).getD q [] = List.replicate m [] := by
  unfold zeroM
  rw [List.getD_eq_getElem?_getD, List.getElem?_replicate, if_pos h]; rfl
theorem zeroM_at (n m q f : Nat) : ((zeroM n m).getD q []).getD f [] = [] := by
  by_cases h : q < n
  · rw [zeroM_row h, List.getD_eq_getElem?_getD, List.getElem?_replicate]
    split <;> rfl
  · have : (zeroM n m).getD q [] = [] := by unfold zeroM; rw [List.getD_eq_getElem?_getD, List.getElem?_replicate, if_neg h]; rfl
    rw [this]; rfl
theorem getR_zero {t : ByteArray} {rk : List Int} {st : Int} {M : Mv} (h : getR t = (0, rk, st, M)) : t.size ≤ 65536 ∧ getV t = some (rk, st, M) ∧ auB rk st M = true := by
  unfold getR at h
  split at h
  · simp at h
  · rename_i hs
    refine ⟨by omega, ?_⟩
    cases hv : getV t with
    | none => rw [hv] at h; simp at h
    | some v =>
      obtain ⟨a, b, c⟩ := v
      rw [hv] at h
      simp only [] at h
      split at h
      · rename_i hc
        simp only [Prod.mk.injEq, true_and] at h
        obtain ⟨rfl, rfl, rfl⟩ := h
        refine ⟨rfl, ?_⟩
        cases hb : auB a b c with
        | true => rfl
        | false => rw [chk_false hb] at hc; cases hc
      · simp at h
end Go.Proofs.YtbmcigakiibncaaGreatDoor.H
namespace Go.Proofs.YtbmcigakiibncaaGreatDoor.H
open Go.RowKit
set_option linter.unusedVariables false
set_option linter.unusedSimpArgs false
def nV (l : List UInt8) : Nat := dval (dgs l)
def nR (l : List UInt8) : List UInt8 := l.drop (dgs l).length
def nX (l : List UInt8) : Bool := numX (dgs l)
def ranksF : Nat → List Int → List UInt8 → Bool → List Int × List UInt8 × Bool
  | 0, acc, l, b => (acc, l, b)
  | k + 1, acc, l, b => if b = true then (acc, l, b) else if isPre [32] l = true then ranksF k (acc ++ [(nV (l.drop 1) : Int)]) (nR (l.drop 1)) (nX (l.drop 1)) else (acc, l, b)
def ndA (l : List UInt8) : List UInt8 := nR (l.drop 1)
def ndL (l : List UInt8) : List UInt8 := nR (isD [46] (ndA l))
def ndB (l : List UInt8) : Bool := (nX (l.drop 1) || !isPre [46] (ndA l)) || nX (isD [46] (ndA l))
def ndV (l : List UInt8) : Nd := ⟨(nV (l.drop 1) : Int), (nV (isD [46] (ndA l)) : Int)⟩
def needsF : Nat → List Nd → List UInt8 → Bool → List Nd × List UInt8 × Bool
  | 0, acc, l, b => (acc, l, b)
  | k + 1, acc, l, b => if b = true then (acc, l, b) else if isPre [32] l = true then needsF k (acc ++ [ndV l]) (ndL l) (ndB l) else (acc, l, b)
def lnG (l : List UInt8) : List UInt8 := isD [32] (nR l)
def lnC (l : List UInt8) : List UInt8 := isD [58] (nR (lnG l))
def lnBad (states m : Nat) (q f : Nat) (l : List UInt8) : Bool := decide (nV l < q) || (decide (nV l = q) && decide (nV (lnG l) < f)) || decide (states ≤ nV l) || decide (m ≤ nV (lnG l))
def lnB4 (l : List UInt8) : Bool := ((nX l || !isPre [32] (nR l)) || nX (lnG l)) || !isPre [58] (nR (lnG l))
def lnB (states m q f : Nat) (l : List UInt8) : Bool := lnB4 l || lnBad states m q f l
def lnN (states m q f : Nat) (l : List UInt8) : List Nd × List UInt8 × Bool := needsF ((lnC l).length + 1) [] (lnC l) (lnB states m q f l)
def lnEnd (states m q f : Nat) (l : List UInt8) : List UInt8 := isD [10] (lnN states m q f l).2.1
def lnOut (states m q f : Nat) (l : List UInt8) : Bool := (lnN states m q f l).2.2 || !isPre [10] (lnN states m q f l).2.1
def linesF (states m : Nat) : Nat → Nat → Nat → Mv → List UInt8 → Bool → Mv × Bool
  | 0, q, f, M, l, b => (M, b)
  | k + 1, q, f, M, l, b => if b = true then (M, b) else if l = [] then (M, b) else
      linesF states m k (nV l) (nV (lnG l)) (if lnOut states m q f l = false ∧ nV l < M.length then addAlt M (nV l) (nV (lnG l)) (lnN states m q f l).1 else M) (lnEnd states m q f l) (lnOut states m q f l)
def refA (t : ByteArray) : List UInt8 := isD tRanks t.data.toList
def refB (t : ByteArray) : List Int × List UInt8 × Bool := ranksF ((refA t).length + 1) [] (refA t) (!isPre tRanks t.data.toList)
def refC (t : ByteArray) : List UInt8 := isD tStates (refB t).2.1
def refD (t : ByteArray) : List UInt8 := isD tStart (nR (refC t))
def refE (t : ByteArray) : List UInt8 := isD [10] (nR (refD t))
def refBad (t : ByteArray) : Bool := ((((refB t).2.2 || !isPre tStates (refB t).2.1) || nX (refC t)) || !isPre tStart (nR (refC t))) || nX (refD t) || !isPre [10] (nR (refD t))
def refL (t : ByteArray) : Mv × Bool := linesF (nV (refC t)) (refB t).1.length ((refE t).length + 1) 0 0 (zeroM (min (nV (refC t)) 7) (refB t).1.length) (refE t) (refBad t)
def refR (t : ByteArray) : Int × List Int × Int × Mv :=
  if 65536 < t.size then (3, [], 0, []) else if (refL t).2 = true then (4, [], 0, []) else if auB (refB t).1 (nV (refD t) : Int) (refL t).1 = true then (0, (refB t).1, (nV (refD t) : Int), (refL t).1) else (10, [], 0, [])
theorem nR_len (l : List UInt8) : (nR l).length ≤ l.length := by unfold nR; rw [List.length_drop]; omega
theorem isD_len (p l : List UInt8) : (isD p l).length ≤ l.length := by unfold isD; split <;> simp
theorem pre_len {p l : List UInt8} (h : isPre p l = true) : p.length ≤ l.length := by
  obtain ⟨r, rfl⟩ := isPre_iff.1 h
  simp
theorem ranksF_fuel : ∀ (k m : Nat) (acc : List Int) (l : List UInt8) (b : Bool), l.length < k → l.length < m → ranksF k acc l b = ranksF m acc l b := by
  intro k
  induction k with
  | zero => intro m acc l b h; omega
  | succ k ih =>
    intro m acc l b h1 h2
    cases m with
    | zero => omega
    | succ m =>
      rw [ranksF, ranksF]
      split
      · rfl
      · split
        · rename_i hp
          have := pre_len hp
          have h3 := nR_len (l.drop 1)
          simp only [List.length_cons, List.length_nil, List.length_drop] at this h3
          exact ih m _ _ _ (by omega) (by omega)
        · rfl
theorem ndL_len {l : List UInt8} (h : isPre [32] l = true) : (ndL l).length < l.length := by
  have h0 := pre_len h
  have h1 := nR_len (l.drop 1)
  have h2 := isD_len [46] (ndA l)
  have h3 := nR_len (isD [46] (ndA l))
  unfold ndL
  unfold ndA at h2 h3 ⊢
  simp only [List.length_cons, List.length_nil, List.length_drop] at h0 h1
  omega
theorem needsF_fuel : ∀ (k m : Nat) (acc : List Nd) (l : List UInt8) (b : Bool), l.length < k → l.length < m → needsF k acc l b = needsF m acc l b := by
  intro k
  induction k with
  | zero => intro m acc l b h; omega
  | succ k ih =>
    intro m acc l b h1 h2
    cases m with
    | zero => omega
    | succ m =>
      rw [needsF, needsF]
      split
      · rfl
      · split
        · rename_i hp
          have := ndL_len hp
          exact ih m _ _ _ (by omega) (by omega)
        · rfl
theorem needsF_len : ∀ (k : Nat) (acc : List Nd) (l : List UInt8) (b : Bool), (needsF k acc l b).2.1.length ≤ l.length ∧ (needsF k acc l b).1.length + (needsF k acc l b).2.1.length ≤ acc.length + l.length
  | 0, acc, l, b => by rw [needsF]; exact ⟨Nat.le_refl _, Nat.le_refl _⟩
  | k + 1, acc, l, b => by
    rw [needsF]
    split
    · exact ⟨Nat.le_refl _, Nat.le_refl _⟩
    · split
      · rename_i hp
        have h1 := ndL_len hp
        have h2 := needsF_len k (acc ++ [ndV l]) (ndL l) (ndB l)
        rw [List.length_append, List.length_singleton] at h2
        omega
      · exact ⟨Nat.le_refl _, Nat.le_refl _⟩
theorem nX_false {l : List UInt8} (h : nX l = false) : 1 ≤ (dgs l).length := by
  unfold nX numX at h
  simp only [Bool.or_eq_false_iff, decide_eq_false_iff_not] at h
  cases e : dgs l with
  | nil => exact absurd e h.1.1
  | cons a r => simp
theorem needsF_bad {k : Nat} {acc : List Nd} {l : List UInt8} : (needsF (k + 1) acc l true).2.2 = true := by rw [needsF, if_pos rfl]
theorem lnOut_sub {states m q f : Nat} {l : List UInt8} (h : lnOut states m q f l = false) : lnB states m q f l = false ∧ (lnEnd states m q f l).length < l.length := by
  unfold lnOut at h
  rw [Bool.or_eq_false_iff] at h
  have hb : lnB states m q f l = false := by
    cases e : lnB states m q f l with
    | false => rfl
    | true =>
      have h1 := h.1
      unfold lnN at h1
      rw [e, needsF_bad] at h1; cases h1
  refine ⟨hb, ?_⟩
  have hx : nX l = false := by
    unfold lnB lnB4 at hb
    simp only [Bool.or_eq_false_iff] at hb
    exact hb.1.1.1.1
  have h1 := nX_false hx
  have h2 := (dgs_len l).2
  have h3 : (nR l).length + 1 ≤ l.length := by unfold nR; rw [List.length_drop]; omega
  have h4 := isD_len [32] (nR l)
  have h5 := nR_len (lnG l)
  have h6 := isD_len [58] (nR (lnG l))
  have h7 := (needsF_len ((lnC l).length + 1) [] (lnC l) (lnB states m q f l)).1
  have h8 := isD_len [10] (lnN states m q f l).2.1
  unfold lnEnd
  unfold lnN at h8 ⊢
  unfold lnC at h7 h8 ⊢
  unfold lnG at h5 h6 h7 h8 ⊢
  omega
theorem linesF_bad {states m k q f : Nat} {M : Mv} {l : List UInt8} : linesF states m k q f M l true = (M, true) := by
  cases k with
  | zero => rfl
  | succ k => rw [linesF, if_pos rfl]
theorem linesF_fuel (states m : Nat) : ∀ (k n q f : Nat) (M : Mv) (l : List UInt8) (b : Bool), l.length < k → l.length < n → linesF states m k q f M l b = linesF states m n q f M l b := by
  intro k
  induction k with
  | zero => intro n q f M l b h; omega
  | succ k ih =>
    intro n q f M l b h1 h2
    cases n with
    | zero => omega
    | succ n =>
      rw [linesF, linesF]
      split
      · rfl
      · split
        · rfl
        · cases ho : lnOut states m q f l with
          | true => rw [linesF_bad, linesF_bad]
          | false =>
            have := (lnOut_sub ho).2
            exact ih n _ _ _ _ _ (by omega) (by omega)
theorem isPre_app (p r : List UInt8) : isPre p (p ++ r) = true := isPre_iff.2 ⟨r, rfl⟩
theorem isD_app (p r : List UInt8) : isD p (p ++ r) = r := by unfold isD; rw [isPre_app, if_pos rfl, List.drop_left]
def NoDig (w : List UInt8) : Prop := ∀ x, w.head? = some x → digs.contains x = false
theorem noDig_cons {c : UInt8} (h : digs.contains c = false) (w : List UInt8) : NoDig (c :: w) := fun x hx => by
  obtain rfl : c = x := by simpa using hx
  exact h
theorem n_dg {n : Nat} (h : n ≤ 1000000000) {w : List UInt8} (hw : NoDig w) : nV (dg n ++ w) = n ∧ nR (dg n ++ w) = w ∧ nX (dg n ++ w) = false := by
  obtain ⟨h1, h2, h3⟩ := dgs_dg h hw
  unfold nV nR nX
  rw [h1]
  exact ⟨h2, by rw [List.drop_left], h3⟩
theorem n_inv {l : List UInt8} (h : nX l = false) : l = dg (nV l) ++ nR l ∧ nV l ≤ 1000000000 := by
  obtain ⟨h1, h2⟩ := numX_inv (dgs_digs l) h
  refine ⟨?_, h2⟩
  unfold nV nR
  rw [← h1]
  conv => lhs; rw [← List.take_append_drop (dgs l).length l]
  rw [dgs_take]
theorem pre_inv {p l : List UInt8} (h : isPre p l = true) : l = p ++ isD p l := by
  obtain ⟨r, rfl⟩ := isPre_iff.1 h
  rw [isD_app]
theorem ranks_of : ∀ (rk : List Int) (k : Nat) (acc : List Int) (w : List UInt8), (ranksT rk ++ 10 :: w).length < k → (∀ r ∈ rk, ∃ n : Nat, n ≤ 1000000000 ∧ r = (n : Int)) → ranksF k acc (ranksT rk ++ 10 :: w) false = (acc ++ rk, 10 :: w, false)
  | [], k, acc, w, hk, _ => by
    cases k with
    | zero => omega
    | succ k =>
      rw [ranksF, if_neg (by decide)]
      have : isPre [32] (ranksT [] ++ 10 :: w) = false := by
        show isPre [32] (10 :: w) = false
        unfold isPre; simp [List.isPrefixOf]
      rw [this, if_neg (by decide), List.append_nil]
      rfl
  | r :: rk, k, acc, w, hk, h => by
    obtain ⟨n, hn, rfl⟩ := h r (List.mem_cons_self ..)
    cases k with
    | zero => omega
    | succ k =>
      have e : ranksT ((n : Int) :: rk) ++ 10 :: w = [32] ++ (dg n ++ (ranksT rk ++ 10 :: w)) := by unfold ranksT; simp
      rw [e] at hk ⊢
      have hw : NoDig (ranksT rk ++ 10 :: w) := by
        cases rk with
        | nil => exact noDig_cons (by decide) w
        | cons b s => unfold ranksT; rw [List.flatMap_cons, List.append_assoc]; exact noDig_cons (by decide) _
      obtain ⟨h1, h2, h3⟩ := n_dg hn hw
      rw [ranksF, if_neg (by decide), isPre_app, if_pos rfl]
      have ed : ([32] ++ (dg n ++ (ranksT rk ++ 10 :: w))).drop 1 = dg n ++ (ranksT rk ++ 10 :: w) := rfl
      rw [ed, h1, h2, h3, ranks_of rk k _ w (by simp only [List.length_append, List.length_cons, List.length_nil] at hk ⊢; omega) (fun r hr => h r (List.mem_cons_of_mem _ hr))]
      simp
theorem needs_of : ∀ (z : List Nd) (k : Nat) (acc : List Nd) (w : List UInt8), (z.flatMap needT ++ 10 :: w).length < k → (∀ y ∈ z, NdOk y) → needsF k acc (z.flatMap needT ++ 10 :: w) false = (acc ++ z, 10 :: w, false)
  | [], k, acc, w, hk, _ => by
    cases k with
    | zero => omega
    | succ k =>
      rw [needsF, if_neg (by decide)]
      have : isPre [32] (([] : List Nd).flatMap needT ++ 10 :: w) = false := by
        show isPre [32] (10 :: w) = false
        unfold isPre; simp [List.isPrefixOf]
      rw [this, if_neg (by decide), List.append_nil]
      rfl
  | y :: z, k, acc, w, hk, h => by
    obtain ⟨a, b, ha, hb, rfl⟩ := h y (List.mem_cons_self ..)
    cases k with
    | zero => omega
    | succ k =>
      have e : (((⟨(a : Int), (b : Int)⟩ : Nd) :: z).flatMap needT) ++ 10 :: w = [32] ++ (dg a ++ ([46] ++ (dg b ++ (z.flatMap needT ++ 10 :: w)))) := by
        rw [List.flatMap_cons, needT_of]; simp
      rw [e] at hk ⊢
      have hw : NoDig (z.flatMap needT ++ 10 :: w) := by
        cases z with
        | nil => exact noDig_cons (by decide) w
        | cons b s => rw [List.flatMap_cons, List.append_assoc]; exact noDig_cons (by decide) _
      obtain ⟨a1, a2, a3⟩ := n_dg ha (w := [46] ++ (dg b ++ (z.flatMap needT ++ 10 :: w))) (noDig_cons (by decide) _)
      obtain ⟨b1, b2, b3⟩ := n_dg hb hw
      rw [needsF, if_neg (by decide), isPre_app, if_pos rfl]
      have ed : ([32] ++ (dg a ++ ([46] ++ (dg b ++ (z.flatMap needT ++ 10 :: w))))).drop 1 = dg a ++ ([46] ++ (dg b ++ (z.flatMap needT ++ 10 :: w))) := rfl
      have e1 : ndV ([32] ++ (dg a ++ ([46] ++ (dg b ++ (z.flatMap needT ++ 10 :: w))))) = ⟨(a : Int), (b : Int)⟩ := by
        unfold ndV ndA; rw [ed, a1, a2, isD_app, b1]
      have e2 : ndL ([32] ++ (dg a ++ ([46] ++ (dg b ++ (z.flatMap needT ++ 10 :: w))))) = z.flatMap needT ++ 10 :: w := by
        unfold ndL ndA; rw [ed, a2, isD_app, b2]
      have e3 : ndB ([32] ++ (dg a ++ ([46] ++ (dg b ++ (z.flatMap needT ++ 10 :: w))))) = false := by
        unfold ndB ndA; rw [ed, a2, a3, isD_app, isPre_app, b3]; rfl
      rw [e1, e2, e3, needs_of z k _ w (by simp only [List.length_append, List.length_cons, List.length_nil] at hk ⊢; omega) (fun r hr => h r (List.mem_cons_of_mem _ hr))]
      simp
theorem line_parts {x : Ln} (h : LnOk x) (w : List UInt8) : nV (lineT x ++ 10 :: w) = x.1 ∧ nV (lnG (lineT x ++ 10 :: w)) = x.2.1 ∧ lnC (lineT x ++ 10 :: w) = x.2.2.flatMap needT ++ 10 :: w ∧ lnB4 (lineT x ++ 10 :: w) = false := by
  obtain ⟨q, f, z⟩ := x
  obtain ⟨h1, h2, h3⟩ := h
  have e : lineT (q, f, z) ++ 10 :: w = dg q ++ ([32] ++ (dg f ++ ([58] ++ (z.flatMap needT ++ 10 :: w)))) := by unfold lineT headT; simp
  rw [e]
  obtain ⟨a1, a2, a3⟩ := n_dg h1 (w := [32] ++ (dg f ++ ([58] ++ (z.flatMap needT ++ 10 :: w)))) (noDig_cons (by decide) _)
  obtain ⟨b1, b2, b3⟩ := n_dg h2 (w := [58] ++ (z.flatMap needT ++ 10 :: w)) (noDig_cons (by decide) _)
  have eg : lnG (dg q ++ ([32] ++ (dg f ++ ([58] ++ (z.flatMap needT ++ 10 :: w))))) = dg f ++ ([58] ++ (z.flatMap needT ++ 10 :: w)) := by unfold lnG; rw [a2, isD_app]
  refine ⟨a1, by rw [eg, b1], by unfold lnC; rw [eg, b2, isD_app], ?_⟩
  unfold lnB4
  rw [eg, a2, a3, b2, b3, isPre_app, isPre_app]; rfl
theorem lines_of (states m : Nat) : ∀ (ls : List Ln) (k q f : Nat) (last : Int) (M : Mv), (linesT ls).length < k → (∀ x ∈ ls, LnOk x) → (last = -1 ∧ q = 0 ∧ f = 0 ∨ last = ((q * m + f : Nat) : Int) ∧ f < m) →
    (pstep states m ls last M = none → (linesF states m k q f M (linesT ls) false).2 = true) ∧ ∀ M', pstep states m ls last M = some M' → linesF states m k q f M (linesT ls) false = (M', false)
  | [], k, q, f, last, M, hk, _, _ => by
    cases k with
    | zero => omega
    | succ k =>
      rw [linesF, if_neg (by decide), show linesT [] = [] from rfl, if_pos rfl]
      refine ⟨(fun h => by cases h), fun M' h => ?_⟩
      rw [pstep] at h
      rw [Option.some.inj h]
  | x :: r, k, q, f, last, M, hk, hok, hqf => by
    cases k with
    | zero => omega
    | succ k =>
      have hx := hok x (List.mem_cons_self ..)
      have e : linesT (x :: r) = lineT x ++ 10 :: linesT r := by unfold linesT; rw [List.flatMap_cons, altT_line]; simp
      rw [e] at hk ⊢
      obtain ⟨p1, p2, p3, p4⟩ := line_parts hx (linesT r)
      have hne : lineT x ++ 10 :: linesT r ≠ [] := by simp
      rw [linesF, if_neg (by decide), if_neg hne, pstep]
      have hcond : lnBad states m q f (lineT x ++ 10 :: linesT r) = !decide (x.1 < states ∧ x.2.1 < m ∧ last ≤ ((x.1 * m + x.2.1 : Nat) : Int)) := by
        unfold lnBad
        rw [p1, p2, Bool.eq_iff_iff]
        simp only [Bool.or_eq_true, Bool.and_eq_true, decide_eq_true_eq, Bool.not_eq_true', decide_eq_false_iff_not]
        have key : x.2.1 < m → (last ≤ ((x.1 * m + x.2.1 : Nat) : Int) ↔ ¬ (x.1 < q ∨ x.1 = q ∧ x.2.1 < f)) := by
          intro hm
          rcases hqf with ⟨rfl, rfl, rfl⟩ | ⟨rfl, hf⟩
          · constructor
            · intro _; omega
            · intro _; omega
          · rw [Int.ofNat_le]
            rcases Nat.lt_trichotomy x.1 q with h | h | h
            · have h8 : (x.1 + 1) * m ≤ q * m := Nat.mul_le_mul_right m h
              rw [Nat.succ_mul] at h8
              constructor
              · intro h9; omega
              · intro h9; exact absurd (.inl h) h9
            · subst h
              constructor
              · intro h9; omega
              · intro h9; omega
            · have h8 : (q + 1) * m ≤ x.1 * m := Nat.mul_le_mul_right m h
              rw [Nat.succ_mul] at h8
              constructor
              · intro h9; omega
              · intro h9; omega
        constructor
        · rintro ((h | h) | h) ⟨k1, k2, k3⟩
          · exact (key k2).1 k3 h
          · omega
          · omega
        · intro h
          by_cases k1 : x.1 < states
          · by_cases k2 : x.2.1 < m
            · have : ¬ last ≤ ((x.1 * m + x.2.1 : Nat) : Int) := fun k3 => h ⟨k1, k2, k3⟩
              rw [key k2] at this
              exact .inl (.inl (Classical.not_not.1 this))
            · exact .inr (by omega)
          · exact .inl (.inr (by omega))
      have hB : lnB states m q f (lineT x ++ 10 :: linesT r) = !decide (x.1 < states ∧ x.2.1 < m ∧ last ≤ ((x.1 * m + x.2.1 : Nat) : Int)) := by
        unfold lnB; rw [p4, Bool.false_or, hcond]
      by_cases hc : x.1 < states ∧ x.2.1 < m ∧ last ≤ ((x.1 * m + x.2.1 : Nat) : Int)
      · rw [decide_eq_true hc, Bool.not_true] at hB
        have hN : lnN states m q f (lineT x ++ 10 :: linesT r) = (x.2.2, 10 :: linesT r, false) := by
          unfold lnN
          rw [hB, p3, needs_of x.2.2 _ [] _ (Nat.lt_succ_self _) hx.2.2, List.nil_append]
        have hO : lnOut states m q f (lineT x ++ 10 :: linesT r) = false := by
          unfold lnOut; rw [hN]; show (false || !isPre [10] ([10] ++ linesT r)) = false; rw [isPre_app]; rfl
        have hE : lnEnd states m q f (lineT x ++ 10 :: linesT r) = linesT r := by
          unfold lnEnd; rw [hN]; exact isD_app [10] (linesT r)
        rw [hO, hE, hN, p1, p2, if_pos hc]
        have ih := lines_of states m r k x.1 x.2.1 ((x.1 * m + x.2.1 : Nat) : Int) (if x.1 < M.length then addAlt M x.1 x.2.1 x.2.2 else M) (by rw [List.length_append, List.length_cons] at hk; omega) (fun y hy => hok y (List.mem_cons_of_mem _ hy)) (.inr ⟨rfl, hc.2.1⟩)
        simp only [true_and]
        exact ih
      · rw [decide_eq_false hc, Bool.not_false] at hB
        have hO : lnOut states m q f (lineT x ++ 10 :: linesT r) = true := by
          unfold lnOut lnN; rw [hB, needsF_bad]; rfl
        rw [hO, linesF_bad, if_neg hc]
        exact ⟨fun _ => rfl, fun M' h => by cases h⟩
theorem ranks_inv : ∀ (k : Nat) (acc : List Int) (l : List UInt8) (b : Bool), l.length < k → (ranksF k acc l b).2.2 = false → b = false ∧ ∃ rk : List Int, (∀ r ∈ rk, ∃ n : Nat, n ≤ 1000000000 ∧ r = (n : Int)) ∧ l = ranksT rk ++ (ranksF k acc l b).2.1
  | 0, acc, l, b, hk, h => by omega
  | k + 1, acc, l, b, hk, h => by
    rw [ranksF] at h ⊢
    cases b with
    | true => rw [if_pos rfl] at h; cases h
    | false =>
      rw [if_neg (by decide)] at h ⊢
      refine ⟨rfl, ?_⟩
      by_cases hp : isPre [32] l = true
      · rw [if_pos hp] at h ⊢
        have h0 := pre_len hp
        have h3 := nR_len (l.drop 1)
        simp only [List.length_cons, List.length_nil, List.length_drop] at h0 h3
        obtain ⟨h1, rk, h2, h4⟩ := ranks_inv k _ _ _ (by omega) h
        obtain ⟨n1, n2⟩ := n_inv h1
        have el := pre_inv hp
        have ed : isD [32] l = l.drop 1 := by unfold isD; rw [if_pos hp]; rfl
        refine ⟨((nV (l.drop 1) : Nat) : Int) :: rk, fun r hr => ?_, ?_⟩
        · rcases List.mem_cons.1 hr with rfl | hr
          · exact ⟨_, n2, rfl⟩
          · exact h2 r hr
        · conv => lhs; rw [el, ed, n1, h4]
          unfold ranksT
          simp
      · rw [if_neg hp] at h ⊢
        exact ⟨[], fun r hr => (by cases hr), rfl⟩
theorem needs_inv : ∀ (k : Nat) (acc : List Nd) (l : List UInt8) (b : Bool), l.length < k → (needsF k acc l b).2.2 = false → b = false ∧ ∃ z : List Nd, (∀ y ∈ z, NdOk y) ∧ l = z.flatMap needT ++ (needsF k acc l b).2.1
  | 0, acc, l, b, hk, h => by omega
  | k + 1, acc, l, b, hk, h => by
    rw [needsF] at h ⊢
    cases b with
    | true => rw [if_pos rfl] at h; cases h
    | false =>
      rw [if_neg (by decide)] at h ⊢
      refine ⟨rfl, ?_⟩
      by_cases hp : isPre [32] l = true
      · rw [if_pos hp] at h ⊢
        have h0 := ndL_len hp
        obtain ⟨h1, z, h2, h4⟩ := needs_inv k _ _ _ (by omega) h
        unfold ndB at h1
        simp only [Bool.or_eq_false_iff, Bool.not_eq_false'] at h1
        obtain ⟨⟨x1, x2⟩, x3⟩ := h1
        obtain ⟨n1, n2⟩ := n_inv x1
        obtain ⟨m1, m2⟩ := n_inv x3
        have el := pre_inv hp
        have ed : isD [32] l = l.drop 1 := by unfold isD; rw [if_pos hp]; rfl
        have ep := pre_inv x2
        refine ⟨ndV l :: z, fun r hr => ?_, ?_⟩
        · rcases List.mem_cons.1 hr with rfl | hr
          · exact ⟨_, _, n2, m2, rfl⟩
          · exact h2 r hr
        · have e1 : nR (l.drop 1) = [46] ++ (dg (nV (isD [46] (ndA l))) ++ ndL l) := by
            show ndA l = _
            conv => lhs; rw [ep, m1]
            rfl
          conv => lhs; rw [el, ed, n1, e1, h4]
          rw [List.flatMap_cons]
          unfold ndV
          rw [needT_of]
          simp
      · rw [if_neg hp] at h ⊢
        exact ⟨[], fun r hr => (by cases hr), rfl⟩
theorem lines_inv (states m : Nat) : ∀ (k q f : Nat) (M : Mv) (l : List UInt8) (b : Bool), l.length < k → (linesF states m k q f M l b).2 = false → b = false ∧ ∃ ls : List Ln, (∀ x ∈ ls, LnOk x) ∧ l = linesT ls
  | 0, q, f, M, l, b, hk, h => by omega
  | k + 1, q, f, M, l, b, hk, h => by
    rw [linesF] at h
    cases b with
    | true => rw [if_pos rfl] at h; cases h
    | false =>
      rw [if_neg (by decide)] at h
      refine ⟨rfl, ?_⟩
      by_cases hl : l = []
      · exact ⟨[], fun x hx => (by cases hx), hl⟩
      · rw [if_neg hl] at h
        cases ho : lnOut states m q f l with
        | true => rw [ho, linesF_bad] at h; cases h
        | false =>
          obtain ⟨hb, hlen⟩ := lnOut_sub ho
          obtain ⟨_, ls, h1, h2⟩ := lines_inv states m k _ _ _ _ _ (by omega) h
          unfold lnOut at ho
          rw [Bool.or_eq_false_iff, Bool.not_eq_false'] at ho
          obtain ⟨_, z, hz, hc⟩ := needs_inv _ _ _ _ (Nat.lt_succ_self _) ho.1
          unfold lnB lnB4 at hb
          simp only [Bool.or_eq_false_iff, Bool.not_eq_false'] at hb
          obtain ⟨⟨⟨⟨x1, x2⟩, x3⟩, x4⟩, _⟩ := hb
          obtain ⟨n1, n2⟩ := n_inv x1
          obtain ⟨m1, m2⟩ := n_inv x3
          have e10 := pre_inv ho.2
          refine ⟨(nV l, nV (lnG l), z) :: ls, fun x hx => ?_, ?_⟩
          · rcases List.mem_cons.1 hx with rfl | hx
            · exact ⟨n2, m2, hz⟩
            · exact h1 x hx
          · have e2 : (lnN states m q f l).2.1 = [10] ++ linesT ls := by rw [e10]; congr 1
            have e3 : lnC l = z.flatMap needT ++ ([10] ++ linesT ls) := by rw [← e2]; exact hc
            have e4 : nR (lnG l) = [58] ++ lnC l := pre_inv x4
            have e5 : nR l = [32] ++ lnG l := pre_inv x2
            rw [show linesT ((nV l, nV (lnG l), z) :: ls) = altT (nV l) (nV (lnG l)) z ++ linesT ls from by unfold linesT; rw [List.flatMap_cons]]
            unfold altT headT
            conv => lhs; rw [n1, e5, m1, e4, e3]
            simp
theorem ref_of {t : ByteArray} {rk : List Int} {states st : Nat} {ls : List Ln} (h : GramOk rk states st ls) (ht : t.data.toList = gramT rk states st ls) :
    (refB t).1 = rk ∧ nV (refC t) = states ∧ nV (refD t) = st ∧ refE t = linesT ls ∧ refBad t = false := by
  have e : gramT rk states st ls = tRanks ++ (ranksT rk ++ 10 :: (tStates.drop 1 ++ (dg states ++ (tStart ++ (dg st ++ ([10] ++ linesT ls)))))) := by
    unfold gramT secT tStates
    simp
  have eS : (10 : UInt8) :: (tStates.drop 1 ++ (dg states ++ (tStart ++ (dg st ++ ([10] ++ linesT ls))))) = tStates ++ (dg states ++ (tStart ++ (dg st ++ ([10] ++ linesT ls)))) := rfl
  have hA : refA t = ranksT rk ++ 10 :: (tStates.drop 1 ++ (dg states ++ (tStart ++ (dg st ++ ([10] ++ linesT ls))))) := by unfold refA; rw [ht, e, isD_app]
  have hB : refB t = (rk, 10 :: (tStates.drop 1 ++ (dg states ++ (tStart ++ (dg st ++ ([10] ++ linesT ls))))), false) := by
    unfold refB
    rw [hA, ht, e, isPre_app, Bool.not_true, ranks_of rk _ [] _ (Nat.lt_succ_self _) h.hr, List.nil_append]
  have hC : refC t = dg states ++ (tStart ++ (dg st ++ ([10] ++ linesT ls))) := by unfold refC; rw [hB]; simp only []; rw [eS, isD_app]
  obtain ⟨s1, s2, s3⟩ := n_dg h.hs (w := tStart ++ (dg st ++ ([10] ++ linesT ls))) (noDig_cons (by decide) _)
  obtain ⟨d1, d2, d3⟩ := n_dg h.ht (w := [10] ++ linesT ls) (noDig_cons (by decide) _)
  have hD : refD t = dg st ++ ([10] ++ linesT ls) := by unfold refD; rw [hC, s2, isD_app]
  refine ⟨by rw [hB], by rw [hC, s1], by rw [hD, d1], by unfold refE; rw [hD, d2, isD_app], ?_⟩
  unfold refBad
  rw [hC, hD, s2, s3, d2, d3, hB]
  simp only []
  rw [eS, isPre_app, isPre_app, isPre_app]; rfl
theorem ref_inv {t : ByteArray} (h : (refL t).2 = false) : ∃ rk states st ls, GramOk rk states st ls ∧ t.data.toList = gramT rk states st ls := by
  unfold refL at h
  obtain ⟨hb, ls, hls, hE⟩ := lines_inv _ _ _ _ _ _ _ _ (Nat.lt_succ_self _) h
  unfold refBad at hb
  simp only [Bool.or_eq_false_iff, Bool.not_eq_false'] at hb
  obtain ⟨⟨⟨⟨⟨b1, b2⟩, b3⟩, b4⟩, b5⟩, b6⟩ := hb
  obtain ⟨c1, rk, hrk, hA⟩ := ranks_inv _ _ _ _ (Nat.lt_succ_self _) b1
  rw [Bool.not_eq_false'] at c1
  obtain ⟨n1, n2⟩ := n_inv b3
  obtain ⟨m1, m2⟩ := n_inv b5
  refine ⟨rk, nV (refC t), nV (refD t), ls, ⟨hrk, n2, m2, hls⟩, ?_⟩
  have e1 : t.data.toList = tRanks ++ refA t := pre_inv c1
  have e2 : refA t = ranksT rk ++ (refB t).2.1 := hA
  have e3 : (refB t).2.1 = tStates ++ refC t := pre_inv b2
  have e4 : nR (refC t) = tStart ++ refD t := pre_inv b4
  have e5 : nR (refD t) = [10] ++ refE t := pre_inv b6
  clear hA c1 b1 b2 b3 b4 b5 b6
  generalize refC t = C at *
  generalize refD t = D at *
  generalize refE t = E at *
  generalize refA t = A at *
  generalize (refB t).2.1 = B at *
  have e6 : C = dg (nV C) ++ (tStart ++ (dg (nV D) ++ ([10] ++ linesT ls))) := by
    rw [← hE, ← e5, ← m1, ← e4]; exact n1
  unfold gramT secT
  rw [e1, e2, e3]
  conv => lhs; rw [e6]
  simp
theorem refR_eq (t : ByteArray) : refR t = getR t := by
  unfold refR getR
  by_cases hs : 65536 < t.size
  · rw [if_pos hs, if_pos hs]
  · rw [if_neg hs, if_neg hs]
    have key : ∀ {rk : List Int} {states st : Nat} {ls : List Ln}, GramOk rk states st ls → t.data.toList = gramT rk states st ls → (getV t = none → (refL t).2 = true) ∧ ∀ v, getV t = some v → (refL t).2 = false ∧ v = ((refB t).1, (nV (refD t) : Int), (refL t).1) := by
      intro rk states st ls hok ht
      obtain ⟨r1, r2, r3, r4, r5⟩ := ref_of hok ht
      have hg := getV_gram hok ht
      obtain ⟨l1, l2⟩ := lines_of states rk.length ls ((linesT ls).length + 1) 0 0 (-1) (zeroM (min states 7) rk.length) (Nat.lt_succ_self _) hok.hl (.inl ⟨rfl, rfl, rfl⟩)
      have hL : refL t = linesF states rk.length ((linesT ls).length + 1) 0 0 (zeroM (min states 7) rk.length) (linesT ls) false := by
        unfold refL; rw [r1, r2, r4, r5]
      rw [hg]
      unfold gramV
      unfold zeroM at l1 l2 hL
      rw [hL, r1, r3]
      cases hp : pstep states rk.length ls (-1) (List.replicate (min states 7) (List.replicate rk.length [])) with
      | none => exact ⟨fun _ => l1 hp, (fun v hv => by cases hv)⟩
      | some M' =>
        refine ⟨(fun hv => by cases hv), fun v hv => ?_⟩
        rw [Option.map_some] at hv
        rw [l2 M' hp, ← Option.some.inj hv]
        exact ⟨rfl, rfl⟩
    cases hv : getV t with
    | none =>
      have hb : (refL t).2 = true := by
        cases e : (refL t).2 with
        | true => rfl
        | false =>
          obtain ⟨rk, states, st, ls, h1, h2⟩ := ref_inv e
          have := (key h1 h2).1 hv
          rw [e] at this; exact this
      rw [if_pos hb]
    | some v =>
      obtain ⟨rk, states, st, ls, h1, h2⟩ := getV_inv hv
      obtain ⟨k1, rfl⟩ := (key h1 h2).2 v hv
      rw [k1, if_neg (by decide)]
      simp only []
      cases hb : auB (refB t).1 (nV (refD t) : Int) (refL t).1 with
      | true => rw [if_pos rfl, if_pos (chk_true hb)]
      | false => rw [if_neg (by decide), if_neg (by rw [chk_false hb]; decide)]
end Go.Proofs.YtbmcigakiibncaaGreatDoor.H
namespace Go.Proofs.YtbmcigakiibncaaGreatDoor.H
open Go.RowKit Go.Proofs.YtbmcigakiibncaaGreatDoorW.PrintWords Go.Proofs.YtbmcigakiibncaaGreatDoorW.PrintLast Go.Proofs.YtbmcigakiibncaaGreatDoorW.PrintMore
set_option linter.unusedVariables false
set_option linter.unusedSimpArgs false
structure GH (w W : World) (x y z : Value) : Prop where
  hb : Below w.heap.size w W
  ha : W.heap[w.heap.size]? = some (.cells #[x, y, z] 25 (0, 0))
  he : W.heap[w.heap.size + 1]? = some (.cells #[.int .i64 0] 29 (0, 0))
theorem GH.start (w : World) : GH w ((w.alloc (.cells #[.slice none 0 0, .int .i64 0, .slice none 0 0] 25)).alloc (.cells #[.int .i64 0] 29)) (.slice none 0 0) (.int .i64 0) (.slice none 0 0) :=
  ⟨below_alloc (below_alloc (Below.refl _ _) _) _, blk_alloc (blk_new w _) _, blk_at2 w _ _⟩
theorem GH.below {w W W1 : World} {x y z : Value} (h : GH w W x y z) (hb : Below W.heap.size W W1) : GH w W1 x y z := ⟨below_then h.hb h.hb.size hb, blk_below h.ha hb, blk_below h.he hb⟩
theorem GH.grown {w W W1 : World} {x y z : Value} (h : GH w W x y z) {row : Option Nat} (hb : Below w.heap.size w W1) (hg : W.grownBy W1 row) (hne : ∀ k, row = some k → w.heap.size + 2 ≤ k) : GH w W1 x y z :=
  ⟨hb, blk_grown h.ha hg (fun e => by have := hne _ e.symm; omega), blk_grown h.he hg (fun e => by have := hne _ e.symm; omega)⟩
theorem GH.cells {w W : World} {x y z : Value} (h : GH w W x y z) : W.cell? ⟨w.heap.size, 0, none⟩ = some x ∧ W.cell? ⟨w.heap.size, 1, none⟩ = some y ∧ W.cell? ⟨w.heap.size, 2, none⟩ = some z ∧ W.cell? ⟨w.heap.size + 1, 0, none⟩ = some (.int .i64 0) :=
  ⟨(blk_cell h.ha 0).trans rfl, (blk_cell h.ha 1).trans rfl, (blk_cell h.ha 2).trans rfl, (blk_cell h.he 0).trans rfl⟩
theorem GH.frozen {w W : World} {x y z : Value} (h : GH w W x y z) : W.frozen? ⟨w.heap.size, 0, none⟩ = false ∧ W.frozen? ⟨w.heap.size, 1, none⟩ = false ∧ W.frozen? ⟨w.heap.size, 2, none⟩ = false ∧ W.frozen? ⟨w.heap.size + 1, 0, none⟩ = false :=
  ⟨blk_frozen h.ha 0, blk_frozen h.ha 1, blk_frozen h.ha 2, blk_frozen h.he 0⟩
theorem GH.set0 {w W : World} {x y z : Value} (h : GH w W x y z) (u : Value) : GH w (W.setCell ⟨w.heap.size, 0, none⟩ u) u y z := ⟨h.hb.setCell (p := ⟨w.heap.size, 0, none⟩) (Nat.le_refl _) _, blk_set h.ha 0 u, blk_far h.he (by show w.heap.size + 1 ≠ w.heap.size; omega) _⟩
theorem GH.set1 {w W : World} {x y z : Value} (h : GH w W x y z) (u : Value) : GH w (W.setCell ⟨w.heap.size, 1, none⟩ u) x u z := ⟨h.hb.setCell (p := ⟨w.heap.size, 1, none⟩) (Nat.le_refl _) _, blk_set h.ha 1 u, blk_far h.he (by show w.heap.size + 1 ≠ w.heap.size; omega) _⟩
theorem GH.set2 {w W : World} {x y z : Value} (h : GH w W x y z) (u : Value) : GH w (W.setCell ⟨w.heap.size, 2, none⟩ u) x y u := ⟨h.hb.setCell (p := ⟨w.heap.size, 2, none⟩) (Nat.le_refl _) _, blk_set h.ha 2 u, blk_far h.he (by show w.heap.size + 1 ≠ w.heap.size; omega) _⟩
theorem run_mkfun9 (fn : Fn) (first cap : Array Value) (w : World) : (Instr.makeFunc fn first cap).run Tryz.prog w = .ok (.func fn first cap) w := rfl
theorem getE_zero {t : ByteArray} {w W : World} {e : Int} (h : getR t = (e, [], 0, [])) (hb : Below w.heap.size w W) : GetE t w (.returned (.tuple #[.agg #[.slice none 0 0, .int .i64 0, .slice none 0 0], .int .i64 e])) W := by
  unfold GetE
  rw [h]
  exact ⟨none, 0, none, 0, rfl, ⟨rfl, by simp, fun h => absurd h (by simp)⟩, Nat.le_refl _, ⟨rfl, by simp, fun h => absurd h (by simp)⟩, Nat.le_refl _, hb⟩
theorem get_panic {t : ByteArray} {w W : World} {x y z : Value} (h : getR t = (4, [], 0, [])) (hG : GH w W x y z) (tm : Array Value) (h2 : tm[2]? = some (.pointer (some ⟨w.heap.size, 0, none⟩))) (h3 : tm[3]? = some (.pointer (some ⟨w.heap.size + 1, 0, none⟩))) :
    bodyPostD Tryz.prog Tryz.f26 (GetE t w) (Exit.panic [{ v := .iface 89 (.agg #[]), recovered := false }]) { tmps := tm, defers := [{ target := .fn (.func 58) #[.pointer (some ⟨w.heap.size, 0, none⟩), .pointer (some ⟨w.heap.size + 1, 0, none⟩)], args := #[] }] } W := by
  refine leaves_cons (f := 58) (args := #[.pointer (some ⟨w.heap.size, 0, none⟩), .pointer (some ⟨w.heap.size + 1, 0, none⟩)]) (by simp) (by simp [go_sem]) ?_
  refine (catch_bad w.heap.size x y z _ W hG.ha hG.he).mono ?_
  rintro e u' w'' ⟨rfl, rfl, h0, h1, hb⟩
  have k0 : w''.cell? ⟨w.heap.size, 0, none⟩ = some (.slice none 0 0) := (blk_cell h0 0).trans rfl
  have k1 : w''.cell? ⟨w.heap.size, 1, none⟩ = some (.int .i64 0) := (blk_cell h0 1).trans rfl
  have k2 : w''.cell? ⟨w.heap.size, 2, none⟩ = some (.slice none 0 0) := (blk_cell h0 2).trans rfl
  have k3 : w''.cell? ⟨w.heap.size + 1, 0, none⟩ = some (.int .i64 4) := (blk_cell h1 0).trans rfl
  have hE := getE_zero (w := w) (W := w'') h (Below.trans hG.hb hb)
  simp [Leaves, settle, results, Tryz.results26, go_sem, h2, h3, k0, k1, k2, k3]
  exact hE
theorem get_done {t : ByteArray} {w W : World} {A1 A2 : Option Addr} {c1 c2 : Nat} {rk : List Int} {st : Int} {M : Mv} {e : Int} (h : getR t = (e, rk, st, M)) (hG : Below w.heap.size w W)
    (h0 : W.heap[w.heap.size]? = some (.cells #[.slice A1 rk.length c1, .int .i64 st, .slice A2 M.length c2] 25 (0, 0))) (h1 : W.heap[w.heap.size + 1]? = some (.cells #[.int .i64 e] 29 (0, 0)))
    (hr : Kd.C (Kd.int .i64) W A1 rk.length rk) (hrc : rk.length ≤ c1) (hM : Kd.C kA3 W A2 M.length M) (hMc : M.length ≤ c2)
    (tm : Array Value) (h2 : tm[2]? = some (.pointer (some ⟨w.heap.size, 0, none⟩))) (h3 : tm[3]? = some (.pointer (some ⟨w.heap.size + 1, 0, none⟩))) :
    bodyPostD Tryz.prog Tryz.f26 (GetE t w) Exit.ret { tmps := tm, defers := [{ target := .fn (.func 58) #[.pointer (some ⟨w.heap.size, 0, none⟩), .pointer (some ⟨w.heap.size + 1, 0, none⟩)], args := #[] }] } W := by
  refine leaves_cons (f := 58) (args := #[.pointer (some ⟨w.heap.size, 0, none⟩), .pointer (some ⟨w.heap.size + 1, 0, none⟩)]) (by simp) (by simp [go_sem]) ?_
  refine (catch_idle _ _ W).mono ?_
  rintro e' u' w'' ⟨rfl, rfl, rfl⟩
  have k0 : w''.cell? ⟨w.heap.size, 0, none⟩ = some (.slice A1 rk.length c1) := (blk_cell h0 0).trans rfl
  have k1 : w''.cell? ⟨w.heap.size, 1, none⟩ = some (.int .i64 st) := (blk_cell h0 1).trans rfl
  have k2 : w''.cell? ⟨w.heap.size, 2, none⟩ = some (.slice A2 M.length c2) := (blk_cell h0 2).trans rfl
  have k3 : w''.cell? ⟨w.heap.size + 1, 0, none⟩ = some (.int .i64 e) := (blk_cell h1 0).trans rfl
  have hE : GetE t w (.returned (.tuple #[.agg #[.slice A1 rk.length c1, .int .i64 st, .slice A2 M.length c2], .int .i64 e])) w'' := by
    unfold GetE
    rw [h]
    exact ⟨A1, _, A2, _, rfl, hr, hrc, hM, hMc, hG⟩
  simp [Leaves, settle, results, Tryz.results26, go_sem, h2, h3, k0, k1, k2, k3]
  exact hE
theorem get_ret0 {t : ByteArray} {w W : World} {e : Int} (h : getR t = (e, [], 0, [])) (hG : Below w.heap.size w W)
    (h0 : W.heap[w.heap.size]? = some (.cells #[.slice none 0 0, .int .i64 0, .slice none 0 0] 25 (0, 0))) (h1 : W.heap[w.heap.size + 1]? = some (.cells #[.int .i64 e] 29 (0, 0)))
    (tm : Array Value) (h2 : tm[2]? = some (.pointer (some ⟨w.heap.size, 0, none⟩))) (h3 : tm[3]? = some (.pointer (some ⟨w.heap.size + 1, 0, none⟩))) :
    bodyPostD Tryz.prog Tryz.f26 (GetE t w) Exit.ret { tmps := tm, defers := [] } W := by
  have k0 : W.cell? ⟨w.heap.size, 0, none⟩ = some (.slice none 0 0) := (blk_cell h0 0).trans rfl
  have k1 : W.cell? ⟨w.heap.size, 1, none⟩ = some (.int .i64 0) := (blk_cell h0 1).trans rfl
  have k2 : W.cell? ⟨w.heap.size, 2, none⟩ = some (.slice none 0 0) := (blk_cell h0 2).trans rfl
  have k3 : W.cell? ⟨w.heap.size + 1, 0, none⟩ = some (.int .i64 e) := (blk_cell h1 0).trans rfl
  have hE := getE_zero h hG
  simp [bodyPostD, Leaves, settle, results, Tryz.results26, go_sem, h2, h3, k0, k1, k2, k3]
  exact hE
end Go.Proofs.YtbmcigakiibncaaGreatDoor.H
namespace Go.Proofs.YtbmcigakiibncaaGreatDoor.H
open Go.RowKit Go.Proofs.YtbmcigakiibncaaGreatDoorW.PrintWords Go.Proofs.YtbmcigakiibncaaGreatDoorW.PrintLast Go.Proofs.YtbmcigakiibncaaGreatDoorW.PrintMore
set_option linter.unusedVariables false
set_option linter.unusedSimpArgs false
theorem strs_cell {W : World} {b : Nat} {L : List ByteArray} {x : Nat × Nat} (h : W.heap[b]? = some (.cells (L.map Value.string).toArray 9 x)) {i : Nat} (hi : i < L.length) : W.cell? ⟨b, i, none⟩ = some (.string (L.getD i ByteArray.empty)) := by
  rw [Lib.cell_of_heap h]
  simp [List.getD_eq_getElem?_getD, hi]
theorem getR_bad {t : ByteArray} (hs : t.size ≤ 65536) (h : getV t = none) : getR t = (4, [], 0, []) := by unfold getR; rw [if_neg (by omega), h]
theorem splitB_size (sep : ByteArray) : ∀ (k : Nat) (s : ByteArray), ∀ x ∈ Lib.splitB sep 0 k s, x.size ≤ s.size
  | 0, s, x, hx => by rw [Lib.splitB_zero, List.mem_singleton] at hx; rw [hx]; exact Nat.le_refl _
  | k + 1, s, x, hx => by
    unfold Lib.splitB at hx
    split at hx
    · rw [List.mem_singleton] at hx; rw [hx]; exact Nat.le_refl _
    · rcases List.mem_cons.1 hx with rfl | hx
      · rw [ByteArray.size_extract]; omega
      · have := splitB_size sep k _ x hx
        rw [ByteArray.size_extract] at this; omega
theorem chunk_size (s : ByteArray) (c : UInt8) (i : Nat) : ((chunks s c).getD i ByteArray.empty).size ≤ s.size := by
  by_cases hi : i < (chunks s c).length
  · rw [List.getD_eq_getElem?_getD, List.getElem?_eq_getElem hi]
    exact splitB_size _ _ _ _ (List.getElem_mem hi)
  · rw [List.getD_eq_getElem?_getD, List.getElem?_eq_none (by omega)]
    exact Nat.zero_le _
theorem getV_short {t : ByteArray} (h : (chunks t 10).length < 3) : getV t = none := by unfold getV; rw [if_neg (fun x => by omega)]
theorem getV_end {t : ByteArray} (h : (chunks t 10).getD ((chunks t 10).length - 1) ByteArray.empty ≠ ByteArray.empty) : getV t = none := by unfold getV; rw [if_neg (fun x => h x.2)]
theorem getV_first {t : ByteArray} (h : (chunks ((chunks t 10).getD 0 ByteArray.empty) 32).head? ≠ some sRanks) : getV t = none := by
  unfold getV
  by_cases hc : 3 ≤ (chunks t 10).length ∧ (chunks t 10).getD ((chunks t 10).length - 1) ByteArray.empty = ByteArray.empty
  · rw [if_pos hc, if_neg (fun x => h x.1)]
  · rw [if_neg hc]
theorem getD_memB {l : List ByteArray} {i : Nat} (hi : i < l.length) : l.getD i ByteArray.empty ∈ l := by
  rw [List.getD_eq_getElem?_getD, List.getElem?_eq_getElem hi]
  exact List.getElem_mem hi
theorem getV_rank {t : ByteArray} {i : Nat} (hi : i < ((chunks ((chunks t 10).getD 0 ByteArray.empty) 32).drop 1).length) (h : okW (((chunks ((chunks t 10).getD 0 ByteArray.empty) 32).drop 1).getD i ByteArray.empty) = false) : getV t = none := by
  unfold getV
  by_cases hc : 3 ≤ (chunks t 10).length ∧ (chunks t 10).getD ((chunks t 10).length - 1) ByteArray.empty = ByteArray.empty
  · rw [if_pos hc, if_neg (fun x => ?_)]
    have h1 := List.all_eq_true.1 x.2.1 (((chunks ((chunks t 10).getD 0 ByteArray.empty) 32).drop 1).getD i ByteArray.empty) (getD_memB hi)
    rw [h] at h1
    cases h1
  · rw [if_neg hc]
theorem getV_second {t : ByteArray} (h : (chunks ((chunks t 10).getD 1 ByteArray.empty) 32).head? ≠ some sStates) : getV t = none := by
  unfold getV
  by_cases hc : 3 ≤ (chunks t 10).length ∧ (chunks t 10).getD ((chunks t 10).length - 1) ByteArray.empty = ByteArray.empty
  · rw [if_pos hc, if_neg (fun x => h x.2.2.1)]
  · rw [if_neg hc]
theorem getV_sec {t : ByteArray} (h : secOk ((chunks ((chunks t 10).getD 1 ByteArray.empty) 32).drop 1) = false) : getV t = none := by
  unfold getV
  by_cases hc : 3 ≤ (chunks t 10).length ∧ (chunks t 10).getD ((chunks t 10).length - 1) ByteArray.empty = ByteArray.empty
  · rw [if_pos hc, if_neg (fun x => by rw [h] at x; exact absurd x.2.2.2 (by decide))]
  · rw [if_neg hc]
theorem num_nonneg {s : ByteArray} (h : okW s = true) : 0 ≤ valW s ∧ valW s ≤ 1000000000 := by
  unfold okW numOk at h
  simp only [Bool.and_eq_true, Bool.not_eq_true', decide_eq_true_eq] at h
  obtain ⟨n, hn⟩ := atoi_some h.1
  unfold valW
  rw [(num_good h.1).1]
  have := numV_eq hn
  omega
theorem getV_main {t s0 s1 x1 x2 x3 p : ByteArray} {L ws wd : List ByteArray} (hL : chunks t 10 = L) (h3 : 3 ≤ L.length) (hle : L.getD (L.length - 1) ByteArray.empty = ByteArray.empty) (hs0 : L.getD 0 ByteArray.empty = s0) (hws : chunks s0 32 = ws) (hhd : ws.head? = some sRanks) (hwd : ws.drop 1 = wd) (hall : wd.all okW = true)
    (hs1 : L.getD 1 ByteArray.empty = s1) (hws2 : chunks s1 32 = [p, x1, x2, x3]) (hh2 : [p, x1, x2, x3].head? = some sStates) (hx2 : x2 = sStart) (ok1 : okW x1 = true) (ok3 : okW x3 = true) :
    getV t = (gstep (valW x1) wd.length ((L.drop 2).take (L.length - 3)) (-1) (List.replicate (min (valW x1) 7).toNat (List.replicate wd.length []))).map fun M => (wd.map valW, valW x3, M) := by
  unfold getV
  subst hs0 hs1 hwd
  rw [hL, if_pos ⟨h3, hle⟩, hws, hws2, if_pos ⟨hhd, hall, hh2, by show (decide (x2 = sStart) && okW x1 && okW x3) = true; rw [decide_eq_true hx2, ok1, ok3]; rfl⟩]
  simp
theorem made_rep (z : Value) (n : Nat) : madeCells #[z] n = Array.replicate n z := by
  unfold madeCells
  apply Array.ext
  · simp
  · intro i h1 h2
    simp [Nat.mod_one]
theorem R_grown9 {α β : Type} {d : Kd α} {d2 : Kd β} {e e2 b0 b2 : Nat} {w w1 : World} {ok ok2 : Nat → Prop} {v v2 : Value} {xs : List α} {ys : List β} (h : d.R e w b0 ok v xs) (h2 : d2.R e2 w b2 ok2 v2 ys) (he : e ≠ e2) (hE : ∀ q ∈ d.E, q ≠ e2) (hg : w.grownBy w1 v2.ownBlock) : d.R e w1 b0 ok v xs := by
  cases hob : v2.ownBlock with
  | none => exact R_same h (fun k hk hlt => hg.block k hlt (by rw [hob]; exact fun x => by cases x))
  | some b =>
    obtain ⟨⟨cb, hcb⟩, _⟩ := ownBlock_typed h2 hob
    refine R_other h b (fun x => ?_) (fun q hq cells hc => types_ne hc hcb (hE q hq) rfl) (fun k hk hlt => hg.block k hlt (by rw [hob]; exact fun x => hk (Option.some.inj x)))
    obtain ⟨⟨c2, h3⟩, _⟩ := ownBlock_typed h x
    exact types_ne h3 hcb he rfl
structure GL (w W : World) (x y z : Value) (bl : Nat) (L : List ByteArray) : Prop where
  g : GH w W x y z
  l : W.heap[bl]? = some (.cells (L.map Value.string).toArray 9 (0, 0))
  hbl : w.heap.size + 2 ≤ bl
theorem GL.below {w W W1 : World} {x y z : Value} {bl : Nat} {L : List ByteArray} (h : GL w W x y z bl L) (hb : Below W.heap.size W W1) : GL w W1 x y z bl L := ⟨h.g.below hb, blk_below h.l hb, h.hbl⟩
theorem GL.app {w W W1 : World} {x y z : Value} {bl : Nat} {L : List ByteArray} (h : GL w W x y z bl L) {α : Type} {d : Kd α} {e b0 : Nat} {v : Value} {xs : List α} (hR : d.R e W b0 (fun k => w.heap.size + 2 ≤ k) v xs) (he : e ≠ 9) (hb : Below w.heap.size w W1) (hg : W.grownBy W1 v.ownBlock) : GL w W1 x y z bl L :=
  ⟨h.g.grown hb hg (fun k hk => hR.1 k hk), blk_grown h.l hg (fun hk => by obtain ⟨⟨c, hc⟩, _⟩ := ownBlock_typed hR hk.symm; exact types_ne hc h.l he rfl), h.hbl⟩
theorem GL.set0 {w W : World} {x y z : Value} {bl : Nat} {L : List ByteArray} (h : GL w W x y z bl L) (u : Value) : GL w (W.setCell ⟨w.heap.size, 0, none⟩ u) u y z bl L := ⟨h.g.set0 u, blk_far h.l (by have := h.hbl; show bl ≠ w.heap.size; omega) _, h.hbl⟩
theorem GL.set1 {w W : World} {x y z : Value} {bl : Nat} {L : List ByteArray} (h : GL w W x y z bl L) (u : Value) : GL w (W.setCell ⟨w.heap.size, 1, none⟩ u) x u z bl L := ⟨h.g.set1 u, blk_far h.l (by have := h.hbl; show bl ≠ w.heap.size; omega) _, h.hbl⟩
theorem GL.set2 {w W : World} {x y z : Value} {bl : Nat} {L : List ByteArray} (h : GL w W x y z bl L) (u : Value) : GL w (W.setCell ⟨w.heap.size, 2, none⟩ u) x y u bl L := ⟨h.g.set2 u, blk_far h.l (by have := h.hbl; show bl ≠ w.heap.size; omega) _, h.hbl⟩
theorem words_cell {W : World} {b : Nat} {ws : List ByteArray} {o i : Nat} (h : W.heap[b]? = some (.cells (ws.map Value.string).toArray 9 (0, 0))) (hi : i < (ws.drop 1).length) (ho : (ws.drop 1).length = 0 ∨ o = 1) : W.cell? ⟨b, o + i, none⟩ = some (.string ((ws.drop 1).getD i ByteArray.empty)) := by
  obtain rfl : o = 1 := by omega
  rw [strs_cell h (show 1 + i < ws.length by rw [List.length_drop] at hi; omega)]
  simp [List.getD_eq_getElem?_getD, List.getElem?_drop, Nat.add_comm]
theorem MM.at {b0 B : Nat} {W : World} {v : Value} {M : Mv} {m : Nat} {gs : List Nat} {u : Nat → Nat → Value} (h : MM b0 B W v M m gs u) {q f : Nat} (hq : q < M.length) (hf : f < m) :
    ∃ ab cap, v = .slice (some ⟨ab, 0, none⟩) M.length cap ∧ W.cell? ⟨ab, q, none⟩ = some (.slice (some ⟨gs.getD q 0, 0, none⟩) m m) ∧ W.cell? ⟨gs.getD q 0, f, none⟩ = some (u q f) ∧ W.frozen? ⟨gs.getD q 0, f, none⟩ = false ∧ (∃ cs, W.heap[ab]? = some (.cells cs 65 (0, 0))) ∧ (∃ cs, W.heap[gs.getD q 0]? = some (.cells cs 66 (0, 0))) ∧ B ≤ gs.getD q 0 := by
  have hrow := h.rows q hq
  have hR := h.row
  obtain ⟨_, inner, ho, _⟩ := h.row
  have hl := h.len
  rcases ho.2 with ⟨rfl, h0⟩ | ⟨g, cap, cur, rfl, hb, hh, hn, _, _, _⟩
  · omega
  · refine ⟨g, cap, by rw [hl], ?_, (blk_cell hrow.2.1 f).trans (by simp [hf]), blk_frozen hrow.2.1 f, ⟨cur, hh⟩, ⟨_, hrow.2.1⟩, hrow.1⟩
    have hr := Kd.R_reads' hR
    obtain ⟨_, _, h3⟩ := hr.2.2
    obtain ⟨ad, e, hcell⟩ := h3 (by omega)
    injection e with e
    subst e
    obtain ⟨cs, hcs, hK, hx⟩ := hcell q (gs.getD q 0) (by have : q < gs.length := by omega
                                                          simp [List.getD_eq_getElem?_getD, this])
    obtain rfl : cs = [.slice (some ⟨gs.getD q 0, 0, none⟩) m m] := hK
    have := hx 0 _ rfl
    rw [show (Addr.add ⟨g, 0, none⟩ (q * (kRow m).sz + 0)) = ⟨g, q, none⟩ by rw [show (kRow m).sz = 1 from rfl]; simp [Addr.add]; exact fun e => e.symm] at this
    exact this
theorem GL.far {w W : World} {x y z : Value} {bl : Nat} {L : List ByteArray} (h : GL w W x y z bl L) {a j : Nat} (ha : w.heap.size + 2 ≤ a) (hne : bl ≠ a) (u : Value) : GL w (W.setCell ⟨a, j, none⟩ u) x y z bl L :=
  ⟨⟨h.g.hb.setCell (p := ⟨a, j, none⟩) (by show w.heap.size ≤ a; omega) _, blk_far h.g.ha (by show w.heap.size ≠ a; omega) _, blk_far h.g.he (by show w.heap.size + 1 ≠ a; omega) _⟩, blk_far h.l hne _, h.hbl⟩
end Go.Proofs.YtbmcigakiibncaaGreatDoor.H
namespace Go.Proofs.YtbmcigakiibncaaGreatDoor.H
open Go.RowKit Go.Proofs.YtbmcigakiibncaaGreatDoorW.PrintWords Go.Proofs.YtbmcigakiibncaaGreatDoorW.PrintLast Go.Proofs.YtbmcigakiibncaaGreatDoorW.PrintMore
set_option linter.unusedVariables false
def lo (x : Nat) : Nat := Lib.ctz 64 x
theorem lo_spec {x : Nat} (h0 : x ≠ 0) (h : x < 16777216) : ∃ m, x = 2 ^ lo x * (2 * m + 1) ∧ lo x < 24 := by
  obtain ⟨m, hm, _⟩ := Lib.ctzFrom_spec 64 x (by omega) (by omega)
  have e : lo x = Lib.ctzFrom 64 x := by unfold lo Lib.ctz; rw [if_neg h0]
  refine ⟨m, by rw [e]; exact hm, ?_⟩
  apply Nat.lt_of_not_le
  intro hle
  have h1 : 2 ^ 24 ≤ 2 ^ lo x := Nat.pow_le_pow_right (by decide) hle
  have h2 : 2 ^ lo x ≤ 2 ^ lo x * (2 * m + 1) := Nat.le_mul_of_pos_right _ (by omega)
  rw [e] at h1 h2
  rw [← hm] at h2
  omega
theorem bit_at {k m i : Nat} : (2 ^ k * (2 * m + 1)).testBit i = (decide (k ≤ i) && (2 * m + 1).testBit (i - k)) := by
  rw [Nat.mul_comm, Nat.testBit_mul_two_pow]
theorem lo_bits {x : Nat} (h0 : x ≠ 0) (h : x < 16777216) : x.testBit (lo x) = true ∧ (∀ i, i < lo x → x.testBit i = false) ∧ lo x < 24 := by
  obtain ⟨m, hm, hk⟩ := lo_spec h0 h
  generalize lo x = k at *
  subst hm
  refine ⟨?_, fun i hi => ?_, hk⟩
  · rw [bit_at]; simp
  · rw [bit_at, decide_eq_false (by omega)]; rfl
theorem drop_bit {x : Nat} (h0 : x ≠ 0) (h : x < 16777216) (i : Nat) : (x &&& (x - 1)).testBit i = (x.testBit i && decide (i ≠ lo x)) := by
  obtain ⟨m, hm, hk⟩ := lo_spec h0 h
  generalize lo x = k at *
  subst hm
  have e : 2 ^ k * (2 * m + 1) - 1 = 2 ^ k * (2 * m) + (2 ^ k - 1) := by
    have : 0 < 2 ^ k := Nat.pos_of_ne_zero (by simp)
    rw [Nat.mul_add, Nat.mul_one]; omega
  have hlt : 2 ^ k - 1 < 2 ^ k := by have : 0 < 2 ^ k := Nat.pos_of_ne_zero (by simp); omega
  rw [Nat.testBit_and, e, Nat.testBit_two_pow_mul_add _ hlt, bit_at]
  by_cases h1 : k ≤ i
  · rw [decide_eq_true h1, if_neg (by omega)]
    by_cases h2 : i = k
    · subst h2
      simp
    · obtain ⟨j, rfl⟩ : ∃ j, i = k + (j + 1) := ⟨i - k - 1, by omega⟩
      have e3 : k + (j + 1) - k = j + 1 := by omega
      rw [e3, Nat.testBit_succ, Nat.testBit_succ]
      have d1 : (2 * m + 1) / 2 = m := by omega
      have d2 : 2 * m / 2 = m := by omega
      rw [d1, d2, decide_eq_true h2]
      simp
  · rw [decide_eq_false h1]; simp
theorem drop_lt {x : Nat} (h0 : x ≠ 0) (h : x < 16777216) : x &&& (x - 1) < x := by
  have h1 : x &&& (x - 1) ≤ x - 1 := Nat.and_le_right
  omega
def bitsN (m : Nat) : List Nat := (List.range 24).filter fun i => m.testBit i
theorem range_cut {n k : Nat} (h : k < n) : List.range n = List.range k ++ k :: List.range' (k + 1) (n - k - 1) := by
  rw [List.range_eq_range', List.range_eq_range', show n = k + (n - k) by omega, ← List.range'_append_1]
  rw [show k + (n - k) - k - 1 = n - k - 1 by omega]
  congr 1
  rw [show n - k = (n - k - 1) + 1 by omega, List.range'_succ]
  simp
theorem filter_first {p q : Nat → Bool} {n k : Nat} (h : k < n) (h1 : ∀ i, i < k → p i = false) (h2 : p k = true) (h3 : ∀ i, q i = (p i && decide (i ≠ k))) : (List.range n).filter p = k :: (List.range n).filter q := by
  rw [range_cut h, List.filter_append, List.filter_append, List.filter_cons, List.filter_cons, h2, h3 k]
  have e1 : (List.range k).filter p = [] := List.filter_eq_nil_iff.2 fun i hi => by rw [h1 i (List.mem_range.1 hi)]; simp
  have e2 : (List.range k).filter q = [] := List.filter_eq_nil_iff.2 fun i hi => by rw [h3, h1 i (List.mem_range.1 hi)]; simp
  have e3 : (List.range' (k + 1) (n - k - 1)).filter p = (List.range' (k + 1) (n - k - 1)).filter q := List.filter_congr fun i hi => by
    have := (List.mem_range'_1.1 hi).1
    rw [h3, decide_eq_true (show i ≠ k by omega), Bool.and_true]
  rw [e1, e2, e3]
  simp
theorem bitsN_step {x : Nat} (h0 : x ≠ 0) (h : x < 16777216) : bitsN x = lo x :: bitsN (x &&& (x - 1)) := by
  obtain ⟨h1, h2, h3⟩ := lo_bits h0 h
  exact filter_first h3 h2 h1 (fun i => drop_bit h0 h i)
theorem bitsN_len (m : Nat) : (bitsN m).length ≤ 24 := by
  unfold bitsN
  exact Nat.le_trans (List.length_filter_le _ _) (by simp)
theorem bitsN_zero : bitsN 0 = [] := by unfold bitsN; simp
theorem i64_and {a b : Nat} (ha : a < 4611686018427387904) (hb : b < 4611686018427387904) : bits .and .i64 (a : Int) (b : Int) = ((a &&& b : Nat) : Int) := by
  have hx : a &&& b < 2 ^ 62 := Nat.and_lt_two_pow _ (by omega)
  show IntKind.i64.wrap ((BitVec.ofInt 64 (a : Int) &&& BitVec.ofInt 64 (b : Int)).toNat : Int) = _
  rw [BitVec.toNat_and, ofInt_u64 a (by omega), ofInt_u64 b (by omega), IntKind.wrap_i64]
  omega
theorem i64_or {a b : Nat} (ha : a < 4611686018427387904) (hb : b < 4611686018427387904) : bits .or .i64 (a : Int) (b : Int) = ((a ||| b : Nat) : Int) := by
  have hx : a ||| b < 2 ^ 62 := Nat.or_lt_two_pow (by omega) (by omega)
  show IntKind.i64.wrap ((BitVec.ofInt 64 (a : Int) ||| BitVec.ofInt 64 (b : Int)).toNat : Int) = _
  rw [BitVec.toNat_or, ofInt_u64 a (by omega), ofInt_u64 b (by omega), IntKind.wrap_i64]
  omega
theorem i64_andNot {a b : Nat} (ha : a < 4611686018427387904) (hb : b < 4611686018427387904) : bits .andNot .i64 (a : Int) (b : Int) = ((a &&& (18446744073709551615 - b) : Nat) : Int) := by
  have hx : a &&& (18446744073709551615 - b) ≤ a := Nat.and_le_left
  show IntKind.i64.wrap ((BitVec.ofInt 64 (a : Int) &&& ~~~BitVec.ofInt 64 (b : Int)).toNat : Int) = _
  rw [BitVec.toNat_and, BitVec.toNat_not, ofInt_u64 a (by omega), ofInt_u64 b (by omega), IntKind.wrap_i64]
  have e : 2 ^ 64 - 1 - b = 18446744073709551615 - b := by omega
  rw [e]
  omega
theorem ofInt_neg (x : Nat) (h0 : x ≠ 0) (h : x < 4611686018427387904) : (BitVec.ofInt 64 (-(x : Int))).toNat = 18446744073709551616 - x := by
  rw [BitVec.toNat_ofInt]
  omega
theorem low_nat {x : Nat} (h0 : x ≠ 0) (h : x < 16777216) : x &&& (18446744073709551616 - x) = 2 ^ lo x := (Lib.lowest_bit 64 x h0 (by omega)).1
theorem lo_pow {x : Nat} (h0 : x ≠ 0) (h : x < 16777216) : 2 ^ lo x < 16777216 ∧ 0 < 2 ^ lo x := by
  have := (lo_bits h0 h).2.2
  exact ⟨Nat.lt_of_lt_of_le (Nat.pow_lt_pow_right (by decide) this) (by decide), Nat.pos_of_ne_zero (by simp)⟩
theorem i64_low {x : Nat} (h0 : x ≠ 0) (h : x < 16777216) : bits .and .i64 (x : Int) (-(x : Int)) = ((2 ^ lo x : Nat) : Int) := by
  have hp := lo_pow h0 h
  show IntKind.i64.wrap ((BitVec.ofInt 64 (x : Int) &&& BitVec.ofInt 64 (-(x : Int))).toNat : Int) = _
  rw [BitVec.toNat_and, ofInt_u64 x (by omega), ofInt_neg x h0 (by omega), low_nat h0 h, IntKind.wrap_i64]
  generalize 2 ^ lo x = p at *
  omega
theorem u64_low {x : Nat} (h0 : x ≠ 0) (h : x < 16777216) : bits .and .u64 (x : Int) (IntKind.u64.wrap (-(x : Int))) = ((2 ^ lo x : Nat) : Int) := by
  have e : IntKind.u64.wrap (-(x : Int)) = ((18446744073709551616 - x : Nat) : Int) := by rw [IntKind.wrap_u64]; omega
  rw [e, u64_and_nat x _ (by omega) (by omega), low_nat h0 h]
theorem i64_drop {x : Nat} (h0 : x ≠ 0) (h : x < 16777216) : bits .and .i64 (x : Int) ((x : Int) - 1) = ((x &&& (x - 1) : Nat) : Int) := by
  rw [show ((x : Int) - 1) = ((x - 1 : Nat) : Int) by omega]
  exact i64_and (by omega) (by omega)
theorem u64_drop {x : Nat} (h0 : x ≠ 0) (h : x < 16777216) : bits .and .u64 (x : Int) ((x : Int) - 1) = ((x &&& (x - 1) : Nat) : Int) := by
  rw [show ((x : Int) - 1) = ((x - 1 : Nat) : Int) by omega]
  exact u64_and_nat _ _ (by omega) (by omega)
end Go.Proofs.YtbmcigakiibncaaGreatDoor.H
namespace Go.Proofs.YtbmcigakiibncaaGreatDoor.H
open Go.RowKit Go.Proofs.YtbmcigakiibncaaGreatDoorW.PrintWords Go.Proofs.YtbmcigakiibncaaGreatDoorW.PrintLast Go.Proofs.YtbmcigakiibncaaGreatDoorW.PrintMore
set_option linter.unusedVariables false
def TabD (w : World) : Prop := ∀ k, k < 64 → w.cell? ⟨1, k, none⟩ = some (.int .u8 ((Lib.deBruijn64tab.getD k 0 : Nat) : Int))
theorem TabD.below {w w1 : World} (h : TabD w) (hb : Below w.heap.size w w1) : TabD w1 := fun k hk => pw_cell_below hb (h k hk)
theorem TabD.tab {w : World} (h : TabD w) : Tab w := ⟨h 0 (by decide), h 1 (by decide), h 3 (by decide), h 7 (by decide), h 15 (by decide), h 31 (by decide)⟩
theorem tzAt_wide {x : Nat} (h0 : x ≠ 0) (h : x < 16777216) : tzAt (x : Int) = ((2 ^ lo x * 285870213051353865 % 18446744073709551616 / 288230376151711744 : Nat) : Int) := by
  unfold tzAt
  rw [u64_low h0 h, IntKind.wrap_u64]
  generalize 2 ^ lo x = p
  omega
theorem tab_at {x : Nat} (h0 : x ≠ 0) (h : x < 16777216) : ∃ k : Nat, tzAt (x : Int) = (k : Int) ∧ k < 64 ∧ Lib.deBruijn64tab.getD k 0 = lo x :=
  ⟨_, tzAt_wide h0 h, Lib.deBruijn64_at (lo x) (by have := (lo_bits h0 h).2.2; omega)⟩
theorem tz64W_calls (x : Nat) (h0 : x ≠ 0) (h1 : x < 16777216) (w : World) (h : TabD w) : Calls Tryz.prog 112 #[.int .u64 (x : Int)] w fun E w' => E = .returned (.int .i64 (lo x : Int)) ∧ w' = w := by
  obtain ⟨k, e, hd, ht⟩ := tab_at h0 h1
  have hl := (lo_bits h0 h1).2.2
  have hc := h _ hd
  rw [ht] at hc
  rw [show k = (tzAt (x : Int)).toNat by rw [e]; exact (Int.toNat_natCast k).symm] at hc
  have hb : 0 ≤ tzAt (x : Int) ∧ tzAt (x : Int) < 64 := by rw [e]; omega
  have hx : ¬ (x : Int) = 0 := by omega
  clear h h0 ht
  generalize lo x = l at *
  unfold tzAt at hc hb
  obtain ⟨hb0, hb1⟩ := hb
  clear e hd
  go_enter Tryz.func112, Tryz.ntmps112
  go_wp2
  go_ret
  exact ⟨rfl, rfl⟩
theorem tzW_calls (x : Nat) (h0 : x ≠ 0) (h1 : x < 16777216) (w : World) (h : TabD w) : Calls Tryz.prog 90 #[.int .u64 (x : Int)] w fun E w' => E = .returned (.int .i64 (lo x : Int)) ∧ w' = w := by
  have H := Aside0.mk (tz64W_calls x h0 h1 w h)
  clear h h0 h1
  go_enter Tryz.func90, Tryz.ntmps90
  go_wp2_with fail
  refine (H.out).mono ?_
  rintro E w2 ⟨rfl, rfl⟩
  go_wp2
  go_ret
  exact ⟨rfl, rfl⟩
def bitsI (m : Nat) : List Int := (bitsN m).map fun (i : Nat) => (i : Int)
theorem bitsI_step {x : Nat} (h0 : x ≠ 0) (h : x < 16777216) : bitsI x = (lo x : Int) :: bitsI (x &&& (x - 1)) := by unfold bitsI; rw [bitsN_step h0 h]; rfl
theorem bitsI_len (m : Nat) : (bitsI m).length ≤ 24 := by unfold bitsI; rw [List.length_map]; exact bitsN_len m
def ListW (m : Nat) (w : World) (E : Ending) (w' : World) : Prop := ∃ (A : Option Addr) (c : Nat), E = .returned (.slice A (bitsI m).length c) ∧ (bitsI m).length ≤ c ∧ Kd.C (Kd.int .i64) w' A (bitsI m).length (bitsI m) ∧ Below w.heap.size w w'
set_option maxHeartbeats 2000000 in
theorem listW_calls (m : Nat) (hm : m < 16777216) (w : World) (h : TabD w) : Calls Tryz.prog 41 #[.int .i64 (m : Int)] w (ListW m w) := by
  have HT := Aside0.mk h
  have HM := Aside0.mk hm
  clear h hm
  go_enter Tryz.func41, Tryz.ntmps41
  go_upto_region 3 with (fail)
  rw [u64_id (by omega) (by have := HM.out; omega)]
  go_loopg [3, 4] m (fun gg v3 v4 wi => ∃ (ys : List Int) (x : Nat) (So : Nat → Prop), x ≤ gg ∧ v4 = .int .u64 x ∧ x < 16777216 ∧ Aside0 (ys ++ bitsI x = bitsI m) ∧ Aside0 (Kd.R (Kd.int .i64) 3 wi w.heap.size So v3 ys) ∧ Aside0 (Below w.heap.size w wi))
  case atStart => exact ⟨[], m, fun _ => False, by omega, rfl, HM.out, ⟨by rw [List.nil_append]⟩, ⟨Kd.R_nil _ _ _ _ _⟩, ⟨Below.refl _ _⟩⟩
  case round =>
    obtain ⟨ys, x, So, hgg, rfl, hx, HE, HR, HB⟩ := hrel
    obtain ⟨A, c, rfl⟩ := Kd.R_slice HR.out
    by_cases h0 : x = 0
    · subst h0
      have hE := HE.out
      rw [show bitsI 0 = [] by unfold bitsI; rw [bitsN_zero]; rfl, List.append_nil] at hE
      subst hE
      have hr := Kd.R_reads' HR.out
      go_wp2
      go_ret
      exact ⟨A, c, rfl, hr.2.1, hr.2.2, (HB.out)⟩
    · have h0z : ¬ (x : Int) = 0 := by omega
      have e1 := bitsI_step h0 hx
      have e2 := u64_drop h0 hx
      have e3 := drop_lt h0 hx
      have HE1 := Aside0.mk (show (ys ++ [(lo x : Int)]) ++ bitsI (x &&& (x - 1)) = bitsI m by rw [List.append_assoc, List.singleton_append, ← e1]; exact HE.out)
      have HL1 := Aside0.mk (show ys.length ≤ 24 by have h1 := congrArg List.length HE.out; rw [List.length_append] at h1; have := bitsI_len m; omega)
      have HZ := Aside0.mk (tzW_calls x h0 hx wr ((HT.out).below HB.out))
      have HE2 := Aside0.mk e2
      clear e1 e2 HE h0
      go_wp2_with fail
      refine (HZ.out).mono ?_
      rintro E w2 ⟨rfl, rfl⟩
      generalize lo x = l at *
      go_wp2_with ((with_reducible refine gate_builtin (b := .append) (xs := #[.tmp 13, .tmp 16]) rfl ?_); at_builtin; refine Kd.R_append (Kd.int .i64) (w0 := w) w.heap.size rfl (.tmp 13) (.tmp 16) 22 3 (.int .i64 0) 8 rfl Tryz.underlying22 Q.info3 rfl (by decide) (by omega) (.slice A ys.length c) ys (l : Int) [.int .i64 (l : Int)] (fun k => So k ∨ w2.heap.size ≤ k) (fun _ => False) rfl rfl rfl (fun _ hk => hk.elim) (fun k hk => .inr hk) (Kd.R_mono HR.out (fun _ hk => .inl hk)) HB.out (HB.out).size (by have := HL1.out; omega) ?_; intro v5 w5 ho5 hb5 hg5 hat5; have HR5 := Aside0.mk ho5; have HB5 := Aside0.mk hb5; clear ho5 hb5 hg5 hat5)
      go_roundg (x &&& (x - 1))
      case measure => omega
      case rel => exact ⟨ys ++ [(l : Int)], x &&& (x - 1), _, Nat.le_refl _, by rw [HE2.out], by omega, HE1, HR5, HB5⟩
end Go.Proofs.YtbmcigakiibncaaGreatDoor.H
namespace Go.Proofs
open Go.Shelf
set_option linter.unusedVariables false
def Tryz.sortN_ren : Go.Shelf.Ren := ⟨fun | 6 => 97 | 15 => 119 | 14 => 118 | 28 => 141 | 29 => 142 | 20 => 133 | 21 => 134 | 22 => 135 | 23 => 136 | 24 => 137 | 25 => 138 | 26 => 139 | 27 => 140 | 46 => 164 | 47 => 165 | 48 => 166 | 49 => 167 | 50 => 168 | 57 => 182 | n => n, fun | 22 => 66 | 24 => 69 | 25 => 109 | 3 => 3 | 39 => 116 | 0 => 0 | 53 => 141 | 55 => 143 | 4 => 4 | 46 => 160 | 45 => 159 | 50 => 131 | 5 => 5 | 9 => 9 | 66 => 181 | 70 => 154 | 76 => 199 | 77 => 138 | n => n, fun | n => n⟩
theorem Tryz.sortN : Go.Proofs.SlLaysF.n6 Tryz.prog Tryz.sortN_ren := {
  mixed := by kernel_rfl
  f6 := ⟨Tryz.f97.name, by decide, Tryz.func97.trans (congrArg some (by kernel_rfl))⟩
  f14 := ⟨Tryz.f118.name, by decide, Tryz.func118.trans (congrArg some (by kernel_rfl))⟩
  f15 := Tryz.func119.trans (congrArg some (by kernel_rfl))
  f20 := ⟨Tryz.f133.name, by decide, Tryz.func133.trans (congrArg some (by kernel_rfl))⟩
  f21 := ⟨Tryz.f134.name, by decide, Tryz.func134.trans (congrArg some (by kernel_rfl))⟩
  f22 := ⟨Tryz.f135.name, by decide, Tryz.func135.trans (congrArg some (by kernel_rfl))⟩
  f23 := ⟨Tryz.f136.name, by decide, Tryz.func136.trans (congrArg some (by kernel_rfl))⟩
  f24 := ⟨Tryz.f137.name, by decide, Tryz.func137.trans (congrArg some (by kernel_rfl))⟩
  f25 := ⟨Tryz.f138.name, by decide, Tryz.func138.trans (congrArg some (by kernel_rfl))⟩
  f26 := ⟨Tryz.f139.name, by decide, Tryz.func139.trans (congrArg some (by kernel_rfl))⟩
  f27 := ⟨Tryz.f140.name, by decide, Tryz.func140.trans (congrArg some (by kernel_rfl))⟩
  f28 := Tryz.func141.trans (congrArg some (by kernel_rfl))
  f29 := Tryz.func142.trans (congrArg some (by kernel_rfl))
  f46 := ⟨Tryz.f164.name, by decide, Tryz.func164.trans (congrArg some (by kernel_rfl))⟩
  f47 := Tryz.func165.trans (congrArg some (by kernel_rfl))
  f48 := Tryz.func166.trans (congrArg some (by kernel_rfl))
  f49 := ⟨Tryz.f167.name, by decide, Tryz.func167.trans (congrArg some (by kernel_rfl))⟩
  f50 := ⟨Tryz.f168.name, by decide, Tryz.func168.trans (congrArg some (by kernel_rfl))⟩
  f57 := ⟨Tryz.f182.name, by decide, Tryz.func182.trans (congrArg some (by kernel_rfl))⟩
  t0 := Tryz.underlying0
  a0 := Tryz.isAgg0
  z0 := Tryz.sizeOf0
  v0 := Tryz.zeroValue0
  t3 := Tryz.underlying3
  a3 := Tryz.isAgg3
  z3 := Tryz.sizeOf3
  v3 := Tryz.zeroValue3
  t4 := Tryz.underlying4
  a4 := Tryz.isAgg4
  z4 := Tryz.sizeOf4
  v4 := Tryz.zeroValue4
  t5 := Tryz.underlying5
  a5 := Tryz.isAgg5
  z5 := Tryz.sizeOf5
  v5 := Tryz.zeroValue5
  t9 := Tryz.underlying9
  a9 := Tryz.isAgg9
  z9 := Tryz.sizeOf9
  v9 := Tryz.zeroValue9
  t22 := Tryz.underlying66
  a22 := Tryz.isAgg66
  z22 := Tryz.sizeOf66
  v22 := Tryz.zeroValue66
  a24 := Tryz.isAgg69
  z24 := Tryz.sizeOf69
  t25 := Tryz.underlying109
  a25 := Tryz.isAgg109
  z25 := Tryz.sizeOf109
  v25 := Tryz.zeroValue109
  t39 := Tryz.underlying116
  a39 := Tryz.isAgg116
  z39 := Tryz.sizeOf116
  v39 := Tryz.zeroValue116
  t45 := Tryz.underlying159
  a45 := Tryz.isAgg159
  z45 := Tryz.sizeOf159
  v45 := Tryz.zeroValue159
  t46 := Tryz.underlying160
  a46 := Tryz.isAgg160
  z46 := Tryz.sizeOf160
  v46 := Tryz.zeroValue160
  t50 := Tryz.underlying131
  a50 := Tryz.isAgg131
  z50 := Tryz.sizeOf131
  v50 := Tryz.zeroValue131
  t53 := Tryz.underlying141
  a53 := Tryz.isAgg141
  z53 := Tryz.sizeOf141
  v53 := Tryz.zeroValue141
  t55 := Tryz.underlying143
  a55 := Tryz.isAgg143
  z55 := Tryz.sizeOf143
  v55 := Tryz.zeroValue143
  t66 := Tryz.underlying181
  a66 := Tryz.isAgg181
  z66 := Tryz.sizeOf181
  v66 := Tryz.zeroValue181
  t70 := Tryz.underlying154
  a70 := Tryz.isAgg154
  z70 := Tryz.sizeOf154
  v70 := Tryz.zeroValue154
  t76 := Tryz.underlying199
  a76 := Tryz.isAgg199
  z76 := Tryz.sizeOf199
  v76 := Tryz.zeroValue199
  t77 := Tryz.underlying138
  a77 := Tryz.isAgg138
  z77 := Tryz.sizeOf138
  v77 := Tryz.zeroValue138 }
open Go.RowKit Go.Lib in
theorem Tryz.slices_IndexFunc_empty {α : Type} [Inhabited α] (a : Option Addr) (c : Nat) (fv : Value) (w : World) :
    Calls Tryz.prog 116 #[.slice a 0 c, fv] w fun e w' => e = .returned (.int .i64 (-1)) ∧ w' = w := AnyE.slices_IndexFunc_empty Tryz.laysSlH6_f116 a c fv w
open Go.RowKit Go.Lib in
theorem Tryz.slices_ContainsFunc_empty {α : Type} [Inhabited α] (a : Option Addr) (c : Nat) (fv : Value) (w : World) :
    Calls Tryz.prog 131 #[.slice a 0 c, fv] w fun e w' => e = .returned (.bool false) ∧ w' = w := AnyE.slices_ContainsFunc_empty Tryz.laysSlH8_f131 a c fv w
end Go.Proofs
namespace Go.Proofs.YtbmcigakiibncaaGreatDoor.H
open Go.RowKit Go.Proofs.YtbmcigakiibncaaGreatDoorW.PrintWords Go.Proofs.YtbmcigakiibncaaGreatDoorW.PrintLast Go.Proofs.YtbmcigakiibncaaGreatDoorW.PrintMore
set_option linter.unusedVariables false
set_option linter.unusedSimpArgs false
def ofN (l : List Nat) : List Int := l.map fun (n : Nat) => (n : Int)
theorem ofN_len (l : List Nat) : (ofN l).length = l.length := List.length_map ..
def encI (z : Int) : Value := .int .i64 z
def AtRow (A : Option Addr) (n : Nat) : Prop := n = 0 ∨ ∃ b, A = some ⟨b, 0, none⟩
theorem row_at {e : Nat} {W : World} {base : Nat} {ok : Nat → Prop} {A : Option Addr} {n c : Nat} {xs : List Int} (h : (Kd.int .i64).R e W base ok (.slice A n c) xs) : AtRow A n := by
  obtain ⟨_, inner, ho, _⟩ := h
  rcases ho.2 with ⟨e1, h0⟩ | ⟨g, cap, cur, e1, _⟩
  · injection e1 with _ e2 _; exact .inl e2
  · injection e1 with e1 _ _; exact .inr ⟨g, e1⟩
theorem cells_I {W : World} {b n : Nat} {zs : List Int} (hr : Kd.C (Kd.int .i64) W (some ⟨b, 0, none⟩) n zs) (hn : n = zs.length) : ∀ j, j < zs.length → W.cell? ⟨b, 0 + j, none⟩ = some (encI zs[j]!) := by
  intro j hj
  obtain ⟨ad, e, hk⟩ := Kd.at_int hr (j : Int) (by omega) (by omega)
  injection e with e
  subst e
  rw [Int.toNat_natCast, show (Addr.add ⟨b, 0, none⟩ j) = ⟨b, 0 + j, none⟩ by unfold Addr.add; split <;> simp_all] at hk
  rw [hk]
  simp [encI, rd, List.getD_eq_getElem?_getD, List.getElem?_eq_getElem hj, getElem!_pos, hj]
theorem anyI_calls (A : Option Addr) (c : Nat) (zs : List Int) (g : Nat) (lb : Array Value) (p : Int → Bool) (eg : ∀ args w, (callFunc g args).run Tryz.prog w = .ok (.enter g args) w) (W : World) (hp : PredAt Tryz.prog g lb encI p W)
    (hr : Kd.C (Kd.int .i64) W A zs.length zs) (ha : AtRow A zs.length) :
    Calls Tryz.prog 131 #[.slice A zs.length c, .func (.func g) #[] lb] W fun e w' => e = .returned (.bool (zs.any p)) ∧ ∃ q, w' = W.drewN q := by
  rcases ha with h0 | ⟨b, rfl⟩
  · rw [h0]
    refine (Tryz.slices_ContainsFunc_empty (α := Int) A c _ W).mono ?_
    rintro e w' ⟨rfl, rfl⟩
    obtain rfl : zs = [] := List.length_eq_zero_iff.1 h0
    exact ⟨rfl, 0, rfl⟩
  · have h := Tryz.slices_ContainsFunc encI p g lb eg b 0 zs.length c zs W hp (Nat.le_refl _) hr.2.1 (cells_I hr rfl)
    rw [List.take_length] at h
    exact h
theorem idxI_calls (A : Option Addr) (c : Nat) (zs : List Int) (g : Nat) (lb : Array Value) (p : Int → Bool) (eg : ∀ args w, (callFunc g args).run Tryz.prog w = .ok (.enter g args) w) (W : World) (hp : PredAt Tryz.prog g lb encI p W)
    (hr : Kd.C (Kd.int .i64) W A zs.length zs) (ha : AtRow A zs.length) :
    Calls Tryz.prog 116 #[.slice A zs.length c, .func (.func g) #[] lb] W fun e w' => e = .returned (.int .i64 (Lib.idxBy (fun _ y => p y) zs default)) ∧ ∃ q, w' = W.drewN q := by
  rcases ha with h0 | ⟨b, rfl⟩
  · rw [h0]
    refine (Tryz.slices_IndexFunc_empty (α := Int) A c _ W).mono ?_
    rintro e w' ⟨rfl, rfl⟩
    obtain rfl : zs = [] := List.length_eq_zero_iff.1 h0
    exact ⟨rfl, 0, rfl⟩
  · have h := Tryz.slices_IndexFunc encI p g lb eg b 0 zs.length c zs W hp (Nat.le_refl _) hr.2.1 (cells_I hr rfl)
    rw [List.take_length] at h
    exact h
def neededB (alts : List Nat) (x : Nat) : Bool := (bitsN x).all fun i => alts.any fun l => l &&& x == 2 ^ i
theorem eg132 : ∀ args w, (callFunc 132 args).run Tryz.prog w = .ok (.enter 132 args) w := enters_of Tryz.func132 (by kernel_rfl) rfl
theorem eg117 : ∀ args w, (callFunc 117 args).run Tryz.prog w = .ok (.enter 117 args) w := enters_of Tryz.func117 (by kernel_rfl) rfl
set_option maxHeartbeats 2000000 in
theorem pred132 (bx bo : Nat) (x o : Int) (w : World) (hx : w.cell? ⟨bx, 0, none⟩ = some (.int .i64 x)) (ho : w.cell? ⟨bo, 0, none⟩ = some (.int .i64 o)) :
    PredAt Tryz.prog 132 #[.pointer (some ⟨bx, 0, none⟩), .pointer (some ⟨bo, 0, none⟩)] encI (fun z => bits .and .i64 z x == o) w := by
  intro W z hb
  have h1 := pw_cell_below hb hx
  have h2 := pw_cell_below hb ho
  clear hx ho hb
  unfold FnGives
  unfold encI
  simp only [List.append_toArray, List.cons_append, List.nil_append]
  generalize hy : bits .and .i64 z x = y
  go_enter Tryz.func132, Tryz.ntmps132
  go_wp2
  go_ret
  exact ⟨rfl, 0, rfl⟩
set_option maxHeartbeats 2000000 in
theorem pred117 (bx : Nat) (x : Int) (w : World) (hx : w.cell? ⟨bx, 0, none⟩ = some (.int .i64 x)) :
    PredAt Tryz.prog 117 #[.pointer (some ⟨bx, 0, none⟩)] encI (fun z => bits .and .i64 z x == 0) w := by
  intro W z hb
  have h1 := pw_cell_below hb hx
  clear hx hb
  unfold FnGives
  unfold encI
  simp only [List.append_toArray, List.cons_append, List.nil_append]
  go_enter Tryz.func117, Tryz.ntmps117
  go_wp2
  go_ret
  exact ⟨rfl, 0, rfl⟩
theorem any_and {alts : List Nat} {x : Nat} (hal : ∀ l ∈ alts, l < 16777216) (hx : x < 16777216) (q : Nat) : (ofN alts).any (fun z => bits .and .i64 z (x : Int) == (q : Int)) = alts.any fun l => l &&& x == q := by
  unfold ofN
  rw [List.any_map]
  refine any_congr fun l hl => ?_
  show (bits .and .i64 (l : Int) (x : Int) == (q : Int)) = _
  rw [i64_and (by have := hal l hl; omega) (by omega)]
  by_cases h : l &&& x = q
  · rw [h]; simp
  · rw [Bool.eq_iff_iff, beq_iff_eq, beq_iff_eq]
    omega
set_option maxHeartbeats 4000000 in
theorem needed_calls (hb : Nat) (A : Option Addr) (c : Nat) (alts : List Nat) (x : Nat) (w : World) (hal : ∀ l ∈ alts, l < 16777216) (hx : x < 16777216) (hk : w.cell? ⟨hb, 0, none⟩ = some (.slice A alts.length c)) (hr : Kd.C (Kd.int .i64) w A alts.length (ofN alts)) (ha : AtRow A alts.length) :
    Calls Tryz.prog 115 #[.pointer (some ⟨hb, 0, none⟩), .int .i64 (x : Int)] w fun E w' => E = .returned (.bool (neededB alts x)) ∧ Below w.heap.size w w' := by
  have HAL := Aside0.mk hal
  have HX := Aside0.mk hx
  have HK := Aside0.mk hk
  have HR := Aside0.mk hr
  have HA := Aside0.mk ha
  have HB0 := Aside0.mk (below_alloc (Below.refl w.heap.size w) (.cells #[.int .i64 (x : Int)] 3))
  have HN0 := Aside0.mk (blk_new w (.cells #[.int .i64 (x : Int)] 3))
  clear hal hk hr ha
  go_enter Tryz.func115, Tryz.ntmps115
  go_upto_region 1 with (fail)
  generalize w.alloc (.cells #[.int .i64 (x : Int)] 3) = W0 at *
  have k0 : W0.cell? ⟨w.heap.size, 0, none⟩ = some (.int .i64 (x : Int)) := (blk_cell HN0.out 0).trans rfl
  clear hx
  go_wp2
  clear k0
  go_loopg [5] x (fun gg v5 wi => ∃ y : Nat, y ≤ gg ∧ v5 = .int .i64 (y : Int) ∧ y < 16777216 ∧ Aside0 (neededB alts x = (bitsN y).all fun i => alts.any fun l => l &&& x == 2 ^ i) ∧ Aside0 (Below w.heap.size w wi) ∧ Aside0 (wi.heap[w.heap.size]? = some (.cells #[.int .i64 (x : Int)] 3 (0, 0))))
  case atStart => exact ⟨x, Nat.le_refl _, rfl, HX.out, ⟨rfl⟩, HB0, HN0⟩
  case round =>
    clear HB0 HN0
    obtain ⟨y, hgg, rfl, hy, HE, HB, HBX⟩ := hrel
    by_cases h0 : y = 0
    · subst h0
      have HV := Aside0.mk (show neededB alts x = true by rw [HE.out, bitsN_zero]; rfl)
      clear HE
      go_wp2
      go_ret
      exact ⟨by rw [HV.out]; rfl, HB.out⟩
    · have h0z : ¬ (y : Int) = 0 := by omega
      have HST := Aside0.mk (show neededB alts x = ((alts.any fun l => l &&& x == 2 ^ lo y) && (bitsN (y &&& (y - 1))).all fun i => alts.any fun l => l &&& x == 2 ^ i) by rw [HE.out, bitsN_step h0 hy]; rfl)
      have hlow := i64_low h0 hy
      have hdrop := i64_drop h0 hy
      have HDL := Aside0.mk (drop_lt h0 hy)
      have HP := Aside0.mk (lo_pow h0 hy)
      have HAN := Aside0.mk (any_and (x := x) HAL.out HX.out (2 ^ lo y))
      have hneg : wrap64 (-(y : Int)) = -(y : Int) := wr_id (by omega) (by omega)
      generalize 2 ^ lo y = q at *
      have HC := Aside0.mk (fun (w1 : World) (h1 : Below wr.heap.size wr w1) (h2 : w1.cell? ⟨wr.heap.size, 0, none⟩ = some (.int .i64 (q : Int))) =>
        anyI_calls A c (ofN alts) 132 #[.pointer (some ⟨w.heap.size, 0, none⟩), .pointer (some ⟨wr.heap.size, 0, none⟩)] _ eg132 w1
          (pred132 w.heap.size wr.heap.size (x : Int) (q : Int) w1 (pw_cell_below h1 ((blk_cell (HBX.out) 0).trans rfl)) h2) (by rw [ofN_len]; exact Kd.C_below HR.out (below_then HB.out (HB.out).size h1)) (by rw [ofN_len]; exact HA.out))
      rw [ofN_len] at HC
      have k1 := pw_cell_below HB.out HK.out
      have HB1 := Aside0.mk (below_alloc (Below.refl wr.heap.size wr) (.cells #[.int .i64 (q : Int)] 3))
      have HN1 := Aside0.mk (blk_new wr (.cells #[.int .i64 (q : Int)] 3))
      have hmf := run_mkfun
      go_upto_region 5 with (fail)
      have HC2 := Aside0.mk (HC.out _ HB1.out ((blk_cell HN1.out 0).trans rfl))
      have k2 := pw_cell_below HB1.out k1
      have HB2 := Aside0.mk (below_then HB.out (HB.out).size HB1.out)
      have HBX2 := Aside0.mk (blk_below HBX.out HB1.out)
      rw [HAN.out] at HC2
      clear k1 HC HB HBX HB1 HN1 HAN
      generalize wr.alloc (.cells #[.int .i64 (q : Int)] 3) = W1 at *
      cases hq : (alts.any fun l => l &&& x == q) with
      | false =>
        have HV := Aside0.mk (show neededB alts x = false by rw [HST.out, hq]; rfl)
        rw [hq] at HC2
        clear hq
        go_wp2_with fail
        refine (HC2.out).mono ?_
        rintro E W2 ⟨rfl, nq, rfl⟩
        go_wp2
        go_ret
        exact ⟨by rw [HV.out]; rfl, pw_below_drewN HB2.out nq⟩
      | true =>
        have HV := Aside0.mk (show neededB alts x = (bitsN (y &&& (y - 1))).all fun i => alts.any fun l => l &&& x == 2 ^ i by rw [HST.out, hq]; rfl)
        rw [hq] at HC2
        clear hq
        go_wp2_with fail
        refine (HC2.out).mono ?_
        rintro E W2 ⟨rfl, nq, rfl⟩
        have HB3 := Aside0.mk (pw_below_drewN HB2.out nq)
        have HBX3 := Aside0.mk (blk_drewN HBX2.out nq)
        have HDR := Aside0.mk hdrop
        clear HB2 HBX2
        generalize W1.drewN nq = W3 at *
        go_wp2
        go_roundg (y &&& (y - 1))
        case measure => have := HDL.out; omega
        case rel => exact ⟨_, Nat.le_refl _, rfl, by have := HDL.out; omega, HV, HB3, HBX3⟩
end Go.Proofs.YtbmcigakiibncaaGreatDoor.H
namespace Go.Proofs.YtbmcigakiibncaaGreatDoor.H
open Go.RowKit Go.Proofs.YtbmcigakiibncaaGreatDoorW.PrintWords Go.Proofs.YtbmcigakiibncaaGreatDoorW.PrintLast Go.Proofs.YtbmcigakiibncaaGreatDoorW.PrintMore
set_option linter.unusedVariables false
set_option linter.unusedSimpArgs false
def andN (l wo : Nat) : Nat := l &&& (18446744073709551615 - wo)
def hitBits (rec : Nat → Nat → List Nat) (x : Nat) : Nat → List Nat → List Nat
  | _, [] => []
  | wo, i :: r => rec (x ||| 2 ^ i) wo ++ hitBits rec x (wo ||| 2 ^ i) r
def hitAll (alts : List Nat) : Nat → Nat → Nat → List Nat
  | 0, _, _ => []
  | k + 1, x, wo => if neededB alts x then (match alts.find? (fun l => l &&& x == 0) with
    | none => [x]
    | some l => hitBits (hitAll alts k) x wo (bitsN (andN l wo))) else []
theorem idx_from (x : Nat) (hx : x < 16777216) : ∀ (alts : List Nat) (i : Nat), (∀ l ∈ alts, l < 16777216) →
    match alts.find? (fun l => l &&& x == 0) with
    | none => Lib.idxByFrom (fun (_ : Int) y => bits .and .i64 y (x : Int) == 0) default (ofN alts) i = -1
    | some l => ∃ j, j < alts.length ∧ alts.getD j 0 = l ∧ Lib.idxByFrom (fun (_ : Int) y => bits .and .i64 y (x : Int) == 0) default (ofN alts) i = ((i + j : Nat) : Int)
  | [], i, _ => rfl
  | a :: r, i, h => by
    have e : (bits .and .i64 (a : Int) (x : Int) == 0) = (a &&& x == 0) := by
      rw [i64_and (by have := h a (List.mem_cons_self ..); omega) (by omega), Bool.eq_iff_iff, beq_iff_eq, beq_iff_eq]
      omega
    have ih := idx_from x hx r (i + 1) (fun l hl => h l (List.mem_cons_of_mem _ hl))
    rw [List.find?_cons]
    unfold ofN at ih ⊢
    rw [List.map_cons, Lib.idxByFrom, e]
    cases ha : (a &&& x == 0) with
    | true => exact ⟨0, by simp, rfl, by simp⟩
    | false =>
      simp only
      rw [if_neg (by decide)]
      cases hf : r.find? (fun l => l &&& x == 0) with
      | none => rw [hf] at ih; exact ih
      | some l =>
        rw [hf] at ih
        obtain ⟨j, hj, hl, he⟩ := ih
        exact ⟨j + 1, by rw [List.length_cons]; omega, by simpa using hl, by rw [he]; congr 1; omega⟩
theorem bitsN_mem {m i : Nat} : i ∈ bitsN m ↔ i < 24 ∧ m.testBit i = true := by unfold bitsN; rw [List.mem_filter, List.mem_range]
theorem or_lt {x i : Nat} (hx : x < 16777216) (hi : i < 24) : x ||| 2 ^ i < 16777216 := Nat.or_lt_two_pow (n := 24) hx (Nat.pow_lt_pow_right (by decide) hi)
theorem or_len {x i : Nat} (hx : x.testBit i = false) (hi : i < 24) : (bitsN (x ||| 2 ^ i)).length = (bitsN x).length + 1 := by
  have h : ∀ n, i < n → ((List.range n).filter fun j => (x ||| 2 ^ i).testBit j).length = ((List.range n).filter fun j => x.testBit j).length + 1 := by
    intro n hn
    rw [range_cut hn, List.filter_append, List.filter_append, List.filter_cons, List.filter_cons, hx]
    rw [show (x ||| 2 ^ i).testBit i = true by rw [Nat.testBit_or, Nat.testBit_two_pow]; simp]
    have e1 : (List.range i).filter (fun j => (x ||| 2 ^ i).testBit j) = (List.range i).filter (fun j => x.testBit j) := List.filter_congr fun j hj => by
      have := List.mem_range.1 hj
      rw [Nat.testBit_or, Nat.testBit_two_pow, decide_eq_false (by omega), Bool.or_false]
    have e2 : (List.range' (i + 1) (n - i - 1)).filter (fun j => (x ||| 2 ^ i).testBit j) = (List.range' (i + 1) (n - i - 1)).filter (fun j => x.testBit j) := List.filter_congr fun j hj => by
      have := (List.mem_range'_1.1 hj).1
      rw [Nat.testBit_or, Nat.testBit_two_pow, decide_eq_false (by omega), Bool.or_false]
    rw [e1, e2]
    simp
    omega
  exact h 24 hi
theorem andN_le (l wo : Nat) : andN l wo ≤ l := Nat.and_le_left
theorem andN_bit {l wo i : Nat} (h : (andN l wo).testBit i = true) : l.testBit i = true := by
  unfold andN at h
  rw [Nat.testBit_and, Bool.and_eq_true] at h
  exact h.1
theorem and_zero_bit {l x i : Nat} (h : (l &&& x == 0) = true) (hl : l.testBit i = true) : x.testBit i = false := by
  have h1 : (l &&& x).testBit i = false := by rw [beq_iff_eq.1 h]; simp
  rw [Nat.testBit_and, hl, Bool.true_and] at h1
  exact h1
structure HS (w0 : World) (t0 hb : Nat) (A : Option Addr) (c : Nat) (alts : List Nat) (v : Value) (o : List Nat) (W : World) : Prop where
  below : Below w0.heap.size w0 W
  h0 : w0.heap.size ≤ hb
  ht : hb < t0
  hW : t0 ≤ W.heap.size
  blk : W.heap[hb]? = some (.cells #[.slice A alts.length c, v] 124 (0, 0))
  ra : Kd.R (Kd.int .i64) 3 W w0.heap.size (fun k => k < t0 ∧ k ≠ hb) (.slice A alts.length c) (ofN alts)
  ro : Kd.R (Kd.int .i64) 3 W w0.heap.size (fun k => t0 ≤ k) v (ofN o)
structure Fr (t0 hb : Nat) (v : Value) (W : World) (v' : Value) (W' : World) : Prop where
  size : W.heap.size ≤ W'.heap.size
  keep : ∀ k, k < W.heap.size → k ≠ hb → (k < t0 ∨ some k ≠ v.ownBlock) → W'.heap[k]? = W.heap[k]?
  own : v'.ownBlock = v.ownBlock ∨ ∃ b, v'.ownBlock = some b ∧ W.heap.size ≤ b
theorem Fr.refl (t0 hb : Nat) (v : Value) (W : World) : Fr t0 hb v W v W := ⟨Nat.le_refl _, fun _ _ _ _ => rfl, .inl rfl⟩
theorem Fr.trans {t0 hb : Nat} {v v1 v2 : Value} {W W1 W2 : World} (h : Fr t0 hb v W v1 W1) (h2 : Fr t0 hb v1 W1 v2 W2) : Fr t0 hb v W v2 W2 := by
  refine ⟨Nat.le_trans h.size h2.size, fun k hk hne ho => ?_, ?_⟩
  · rw [h2.keep k (Nat.lt_of_lt_of_le hk h.size) hne ?_, h.keep k hk hne ho]
    rcases ho with ho | ho
    · exact .inl ho
    · rcases h.own with e | ⟨b, e, hb⟩
      · rw [e]; exact .inr ho
      · rw [e]; refine .inr fun x => ?_
        injection x with x
        omega
  · rcases h2.own with e | ⟨b, e, hb⟩
    · rw [e]; exact h.own
    · exact .inr ⟨b, e, Nat.le_trans h.size hb⟩
theorem Fr.below {t0 hb : Nat} {v : Value} {W W1 : World} (h : Below W.heap.size W W1) : Fr t0 hb v W v W1 := ⟨h.size, fun k hk _ _ => h.block k hk, .inl rfl⟩
theorem HS.move {w0 : World} {t0 hb : Nat} {A : Option Addr} {c : Nat} {alts : List Nat} {v : Value} {o : List Nat} {W W1 : World} (h : HS w0 t0 hb A c alts v o W) (hB : Below W.heap.size W W1) : HS w0 t0 hb A c alts v o W1 :=
  ⟨below_then h.below h.below.size hB, h.h0, h.ht, Nat.le_trans h.hW hB.size, blk_below h.blk hB, Kd.R_below h.ra hB, Kd.R_below h.ro hB⟩
theorem HS.reads {w0 : World} {t0 hb : Nat} {A : Option Addr} {c : Nat} {alts : List Nat} {v : Value} {o : List Nat} {W : World} (h : HS w0 t0 hb A c alts v o W) :
    W.cell? ⟨hb, 0, none⟩ = some (.slice A alts.length c) ∧ W.cell? ⟨hb, 1, none⟩ = some v ∧ Kd.C (Kd.int .i64) W A alts.length (ofN alts) ∧ AtRow A alts.length ∧ v.ownBlock ≠ some hb := by
  refine ⟨(blk_cell h.blk 0).trans rfl, (blk_cell h.blk 1).trans rfl, ?_, row_at h.ra, fun e => ?_⟩
  · have := Kd.R_reads' h.ra
    rw [ofN_len] at this
    exact this.2.2
  · obtain ⟨⟨cc, hcc⟩, _⟩ := ownBlock_typed h.ro e
    exact types_ne h.blk hcc (by decide) rfl
theorem HS.put {w0 : World} {t0 hb : Nat} {A : Option Addr} {c : Nat} {alts : List Nat} {v v1 : Value} {o : List Nat} {W W1 : World} (h : HS w0 t0 hb A c alts v o W) (x : Nat)
    (hr : Kd.R (Kd.int .i64) 3 W1 w0.heap.size (fun k => t0 ≤ k) v1 (ofN o ++ [(x : Int)])) (hb1 : Below w0.heap.size w0 W1) (hg : W.grownBy W1 v.ownBlock) (hat : v1.ownBlock = v.ownBlock ∨ ∃ b, v1.ownBlock = some b ∧ W.heap.size ≤ b) :
    HS w0 t0 hb A c alts v1 (o ++ [x]) (W1.setCell ⟨hb, 1, none⟩ v1) ∧ Fr t0 hb v W v1 (W1.setCell ⟨hb, 1, none⟩ v1) := by
  have hset : ∀ k, k ≠ hb → (W1.setCell ⟨hb, 1, none⟩ v1).heap[k]? = W1.heap[k]? := fun k hk => Below.heap_setCell W1 _ _ k hk
  have hs : (W1.setCell ⟨hb, 1, none⟩ v1).heap.size = W1.heap.size := by simp [World.setCell]
  have hgs := hg.size
  have hbk := blk_grown h.blk hg (fun e => (h.reads).2.2.2.2 e.symm)
  have hv : ∀ k, v.ownBlock = some k → t0 ≤ k := fun k hk => h.ro.1 k hk
  refine ⟨⟨hb1.setCell (p := ⟨hb, 1, none⟩) h.h0 _, h.h0, h.ht, by rw [hs]; have := h.hW; omega, blk_set hbk 1 v1, ?_, ?_⟩, by rw [hs]; exact hgs, fun k hk hne ho => ?_, hat⟩
  · refine R_same h.ra (fun k hk hlt => ?_)
    rw [hset k hk.2]
    exact hg.block k hlt (fun e => by have := hv k e.symm; omega)
  · rw [show ofN (o ++ [x]) = ofN o ++ [(x : Int)] by unfold ofN; simp]
    exact R_same hr (fun k hk hlt => hset k (by have := h.ht; omega))
  · rw [hset k hne]
    refine hg.block k hk (fun e => ?_)
    rcases ho with ho | ho
    · have := hv k e.symm; omega
    · exact ho e
end Go.Proofs.YtbmcigakiibncaaGreatDoor.H
namespace Go.Proofs.YtbmcigakiibncaaGreatDoor.H
open Go.RowKit Go.Proofs.YtbmcigakiibncaaGreatDoorW.PrintWords Go.Proofs.YtbmcigakiibncaaGreatDoorW.PrintLast Go.Proofs.YtbmcigakiibncaaGreatDoorW.PrintMore
set_option linter.unusedVariables false
set_option linter.unusedSimpArgs false
def tabT96 : Bool × List (List Nat × List Nat) := (true, [([], []), ([], []), ([1], [1]), ([2], [2]), ([3], [3]), ([], []), ([5], [5]), ([4, 6], [4, 6]), ([0, 0, 1, 2, 3, 4, 5, 6, 7], [0]), ([8, 0, 1, 2, 3, 4, 5, 6, 7], [8]), ([9, 7, 7, 0, 1, 2, 3, 4, 5, 6, 7], [7, 9])])
theorem tab96 : rtab .any (opsOf Tryz.f96 5) = tabT96 := by kernel_rfl
theorem bits96 : waitsOk tabT96.2 [0, 0, 2, 6, 14, 0, 32, 126, 255, 511, 1023] = true := by kernel_rfl
def HitE (w0 : World) (t0 hb : Nat) (A : Option Addr) (c : Nat) (alts : List Nat) (v : Value) (tot : List Nat) (w : World) (E : Ending) (w' : World) : Prop :=
  ∃ v', E = .returned (.bool (decide (tot.length ≤ 12))) ∧ HS w0 t0 hb A c alts v' (tot.take 13) w' ∧ Fr t0 hb v w v' w'
theorem getD_memN2 {alts : List Nat} {j : Nat} (h : j < alts.length) : alts.getD j 0 ∈ alts := by
  rw [List.getD_eq_getElem?_getD, List.getElem?_eq_getElem h]; exact List.getElem_mem h
theorem ret_b {a b : Bool} (h : a = b) : Ending.returned (.bool a) = .returned (.bool b) := by rw [h]
set_option maxHeartbeats 16000000 in
set_option maxRecDepth 100000 in
theorem hit_calls (w0 : World) (t0 hb : Nat) (A : Option Addr) (c : Nat) (alts : List Nat) (hal : ∀ l ∈ alts, l < 16777216) :
    ∀ (k : Nat) (x wo : Nat) (v : Value) (o : List Nat) (w : World), x < 16777216 → wo < 16777216 → 25 ≤ (bitsN x).length + k → o.length ≤ 12 → HS w0 t0 hb A c alts v o w →
      Calls Tryz.prog 96 #[.pointer (some ⟨hb, 0, none⟩), .int .i64 (x : Int), .int .i64 (wo : Int)] w (HitE w0 t0 hb A c alts v (o ++ hitAll alts k x wo) w)
  | 0, x, wo, v, o, w, hx, hwo, hk, ho, hs => absurd (bitsN_len x) (by omega)
  | k + 1, x, wo, v, o, w, hx, hwo, hk, ho, hs => by
    have IH := Aside0.mk (hit_calls w0 t0 hb A c alts hal k)
    have HAL := Aside0.mk hal
    have HX := Aside0.mk hx
    have HWO := Aside0.mk hwo
    have HKL := Aside0.mk hk
    have HOL := Aside0.mk ho
    have hb0 := below_alloc (Below.refl w.heap.size w) (.cells #[.int .i64 (x : Int)] 3)
    have HS1 := Aside0.mk (hs.move hb0)
    have HF1 := Aside0.mk (Fr.below (t0 := t0) (hb := hb) (v := v) hb0)
    have HBX1 := Aside0.mk (blk_new w (.cells #[.int .i64 (x : Int)] 3))
    have HVX := Aside0.mk (show ∀ k, v.ownBlock = some k → k ≠ w.heap.size from fun k hk => by have := (ownBlock_typed hs.ro hk).2; omega)
    have HXB := Aside0.mk (show hb < w.heap.size from by have := hs.ht; have := hs.hW; omega)
    clear hal hk ho hs hb0 hx hwo
    go_enter Tryz.func96, Tryz.ntmps96
    go_upto_region 1 with (fail)
    generalize w.alloc (.cells #[.int .i64 (x : Int)] 3) = W1 at *
    have kx : W1.cell? ⟨w.heap.size, 0, none⟩ = some (.int .i64 (x : Int)) := (blk_cell HBX1.out 0).trans rfl
    have HN := Aside0.mk (needed_calls hb A c alts x W1 HAL.out HX.out (HS1.out).reads.1 (HS1.out).reads.2.2.1 (HS1.out).reads.2.2.2.1)
    go_wp2_with fail
    refine (HN.out).mono ?_
    rintro E W2 ⟨rfl, hb2⟩
    have HS2 := Aside0.mk ((HS1.out).move hb2)
    have HF2 := Aside0.mk ((HF1.out).trans (Fr.below hb2))
    have HBX2 := Aside0.mk (blk_below HBX1.out hb2)
    clear hb2 kx HS1 HF1 HBX1 HN
    cases hn : neededB alts x with
    | false =>
      have HT := Aside0.mk (show o ++ hitAll alts (k + 1) x wo = o by rw [hitAll, hn]; simp)
      clear hn
      go_wp2
      go_ret
      rw [HT.out]
      exact ⟨v, ret_b (by rw [decide_eq_true HOL.out]), by rw [List.take_of_length_le (Nat.le_succ_of_le HOL.out)]; exact HS2.out, HF2.out⟩
    | true =>
    have HIT := Aside0.mk (show hitAll alts (k + 1) x wo = (match alts.find? (fun l => l &&& x == 0) with | none => [x] | some l => hitBits (hitAll alts k) x wo (bitsN (andN l wo))) by rw [hitAll, hn]; rfl)
    have HID := Aside0.mk (idx_from x HX.out alts 0 HAL.out)
    have hmf := run_mkfun
    obtain ⟨kh0, kh1, hrd, hat, hne⟩ := (HS2.out).reads
    have kx : W2.cell? ⟨w.heap.size, 0, none⟩ = some (.int .i64 (x : Int)) := (blk_cell HBX2.out 0).trans rfl
    have HIX := Aside0.mk (idxI_calls A c (ofN alts) 117 #[.pointer (some ⟨w.heap.size, 0, none⟩)] _ eg117 W2 (pred117 w.heap.size (x : Int) W2 kx) (by rw [ofN_len]; exact hrd) (by rw [ofN_len]; exact hat))
    rw [ofN_len] at HIX
    have HIB := Aside0.mk (show Lib.idxBy (fun (_ : Int) y => bits .and .i64 y (x : Int) == 0) (ofN alts) default = Lib.idxByFrom (fun (_ : Int) y => bits .and .i64 y (x : Int) == 0) default (ofN alts) 0 from rfl)
    rw [HIB.out] at HIX
    generalize Lib.idxByFrom (fun (_ : Int) y => bits .and .i64 y (x : Int) == 0) default (ofN alts) 0 = ix at *
    clear hrd hat hne hn HIB
    go_wp2_with fail
    refine (HIX.out).mono ?_
    rintro E W3 ⟨rfl, nq, rfl⟩
    have hbn := pw_below_drewN (Below.refl W2.heap.size W2) nq
    have HS3 := Aside0.mk ((HS2.out).move hbn)
    have HF3 := Aside0.mk ((HF2.out).trans (Fr.below hbn))
    have HBX3 := Aside0.mk (blk_below HBX2.out hbn)
    clear hbn kh0 kh1 kx HS2 HF2 HBX2 HIX
    generalize W2.drewN nq = W3 at *
    obtain ⟨kh0, kh1, hrd, hat, hne⟩ := (HS3.out).reads
    have kx : W3.cell? ⟨w.heap.size, 0, none⟩ = some (.int .i64 (x : Int)) := (blk_cell HBX3.out 0).trans rfl
    have HRD := Aside0.mk hrd
    have HATR := Aside0.mk hat
    clear hrd hat hne
    cases hf : alts.find? (fun l => l &&& x == 0) with
    | none =>
      have hix : ix = -1 := by have := HID.out; rw [hf] at this; exact this
      subst hix
      have HT := Aside0.mk (show hitAll alts (k + 1) x wo = [x] by rw [HIT.out, hf])
      clear HID HIT hf
      have HS3d := Aside0.mk ((HS3.out).move (below_drew (Below.refl _ _)))
      have HBX3d := Aside0.mk (blk_below HBX3.out (below_drew (Below.refl _ _)))
      have HF3d := Aside0.mk ((HF3.out).trans (Fr.below (below_drew (Below.refl _ _))))
      go_upto_region 5 with (fail)
      refine wp_region_noPanic ?_
      refine start_ (n := 11) (S := fun w' => w'.cell? ⟨hb, 1, none⟩ = some v ∧ w'.cell? ⟨w.heap.size, 0, none⟩ = some (.int .i64 (x : Int))) (ds := [10]) #[false, false, false, false, false, false, false, false, false, false, false] (by kernel_rfl) rfl rfl ⟨pw_cell_below (below_drew (Below.refl _ _)) kh1, pw_cell_below (below_drew (Below.refl _ _)) kx⟩ (fun hHeld => ?_)
      refine with_tabW tab96 bits96 (fun HT_ HW_ => ?_)
      clear kh0 kh1 kx
      refine take_ (i := 0) (N := some 22) (v := ?_) (a' := ?_) #[true, false, false, false, false, false, false, false, false, false, false] rfl rfl (take_ofW HT_.out HW_.out (by kernel_rfl)) (fun _ _ _ h => h) (Or.inl ⟨by rfl, ?_⟩) hHeld ?_ ?_
      rotate_left
      · rintro w' ⟨s0, s1⟩
        go_simp
        with_reducible rfl
      rotate_left
      · simp only [Act.put, List.setIfInBounds_toArray, List.set_cons_zero, List.set_cons_succ]
        rfl
      refine take_ (i := 1) (N := some 23) (v := ?_) (a' := ?_) #[true, true, false, false, false, false, false, false, false, false, false] rfl rfl (take_ofW HT_.out HW_.out (by kernel_rfl)) (fun _ _ _ h => h) (Or.inl ⟨by rfl, ?_⟩) hHeld ?_ ?_
      rotate_left
      · rintro w' ⟨s0, s1⟩
        go_simp
        with_reducible rfl
      rotate_left
      · simp only [Act.put, List.setIfInBounds_toArray, List.set_cons_zero, List.set_cons_succ]
        rfl
      refine take_ (i := 2) (N := some 24) (v := ?_) (a' := ?_) #[true, true, true, false, false, false, false, false, false, false, false] rfl rfl (take_ofW HT_.out HW_.out (by kernel_rfl)) (fun _ _ _ h => h) (Or.inl ⟨by rfl, ?_⟩) hHeld ?_ ?_
      rotate_left
      · rintro w' ⟨s0, s1⟩
        go_simp
        with_reducible rfl
      rotate_left
      · simp only [Act.put, List.setIfInBounds_toArray, List.set_cons_zero, List.set_cons_succ]
        rfl
      refine take_ (i := 3) (N := some 25) (v := ?_) (a' := ?_) #[true, true, true, true, false, false, false, false, false, false, false] rfl rfl (take_ofW HT_.out HW_.out (by kernel_rfl)) (fun _ _ _ h => h) (Or.inl ⟨by rfl, ?_⟩) hHeld ?_ ?_
      rotate_left
      · rintro w' ⟨s0, s1⟩
        go_simp
        with_reducible rfl
      rotate_left
      · simp only [Act.put, List.setIfInBounds_toArray, List.set_cons_zero, List.set_cons_succ]
        rfl
      refine take_ (i := 4) (N := some 26) (v := ?_) (a' := ?_) #[true, true, true, true, true, false, false, false, false, false, false] rfl rfl (take_ofW HT_.out HW_.out (by kernel_rfl)) (fun _ _ _ h => h) (Or.inl ⟨by rfl, ?_⟩) hHeld ?_ ?_
      rotate_left
      · rintro w' ⟨s0, s1⟩
        go_simp
        with_reducible rfl
      rotate_left
      · simp only [Act.put, List.setIfInBounds_toArray, List.set_cons_zero, List.set_cons_succ]
        rfl
      refine take_ (i := 5) (N := some 27) (v := ?_) (a' := ?_) #[true, true, true, true, true, true, false, false, false, false, false] rfl rfl (take_ofW HT_.out HW_.out (by kernel_rfl)) (fun _ _ _ h => h) (Or.inl ⟨by rfl, ?_⟩) hHeld ?_ ?_
      rotate_left
      · rintro w' ⟨s0, s1⟩
        go_simp
        with_reducible rfl
      rotate_left
      · simp only [Act.put, List.setIfInBounds_toArray, List.set_cons_zero, List.set_cons_succ]
        rfl
      refine one_ (i := 6) (N := some 28) #[true, true, true, true, true, true, true, false, false, false, false] rfl rfl (one_of HT_.out (by kernel_rfl)) (by decide) (fun K hK => ?_)
      refine value_ (w1 := ?_) (v := ?_) (by rfl) rfl ?_ ?_
      rotate_left 2
      · go_simp
        constructor
        · rfl
        · rfl
      refine hK.out _ _ ⟨pw_cell_below (below_alloc (Below.refl _ _) _) hHeld.1, pw_cell_below (below_alloc (Below.refl _ _) _) hHeld.2⟩ (fun hHeld => ?_)
      clear hK K
      refine norm_ (a' := ?_) ?_ ?_
      rotate_left
      · show Act.put _ (some 28) _ = _
        simp only [Act.put, List.setIfInBounds_toArray, List.set_cons_zero, List.set_cons_succ]
        rfl
      refine one_ (i := 7) (N := some 29) #[true, true, true, true, true, true, true, true, false, false, false] rfl rfl (one_of HT_.out (by kernel_rfl)) (by decide) (fun K hK => ?_)
      refine Kd.R_append_step (Kd.int .i64) (w0 := w0) (W := W3.drew) w0.heap.size (by rfl) (.tmp 26) (.tmp 28) 22 3 (.int .i64 0) 8 rfl Tryz.underlying22 Q.info3 rfl (by decide) (by decide) v (ofN o) (x : Int) [.int .i64 (x : Int)] (fun k => t0 ≤ k) (fun _ => False) (by rfl) (by rfl) rfl (fun _ hk => hk.elim) (fun k hk => Nat.le_trans (HS3d.out).hW hk) (HS3d.out).ro (HS3d.out).below (HS3d.out).below.size (by rw [ofN_len]; have := HOL.out; omega) ?_
      intro v5 w5 ho5 hb5 hg5 hat5
      obtain ⟨HS6, HF6⟩ := (HS3d.out).put x ho5 hb5 hg5 hat5
      have HBK := Aside0.mk (blk_grown (HS3d.out).blk hg5 (fun e => (HS3d.out).reads.2.2.2.2 e.symm))
      have HBX5 := Aside0.mk (blk_grown HBX3d.out hg5 (fun e => HVX.out _ e.symm rfl))
      have m1 : w5.cell? ⟨hb, 1, none⟩ = some v := (blk_cell HBK.out 1).trans rfl
      have m2 : w5.cell? ⟨w.heap.size, 0, none⟩ = some (.int .i64 (x : Int)) := (blk_cell HBX5.out 0).trans rfl
      have mf := blk_frozen HBK.out 1
      have HS6' := Aside0.mk HS6
      have HF6' := Aside0.mk HF6
      obtain ⟨A5, c5, e5⟩ := Kd.R_slice ho5
      rw [show (ofN o ++ [(x : Int)]).length = o.length + 1 by rw [List.length_append, ofN_len, List.length_singleton]] at e5
      subst e5
      clear HS6 HF6 ho5 hb5 hg5 hat5
      refine hK.out _ _ ⟨m1, m2⟩ (fun hHeld => ?_)
      clear hK K
      refine norm_ (a' := ?_) ?_ ?_
      rotate_left
      · show Act.put _ (some 29) _ = _
        simp only [Act.put, List.setIfInBounds_toArray, List.set_cons_zero, List.set_cons_succ]
        rfl
      refine take_ (i := 8) (N := some 30) (v := ?_) (a' := ?_) #[true, true, true, true, true, true, true, true, true, false, false] rfl rfl (take_ofW HT_.out HW_.out (by kernel_rfl)) (fun _ _ _ h => h) (Or.inl ⟨by rfl, ?_⟩) hHeld ?_ ?_
      rotate_left
      · rintro w' ⟨s0, s1⟩
        go_simp
        with_reducible rfl
      rotate_left
      · simp only [Act.put, List.setIfInBounds_toArray, List.set_cons_zero, List.set_cons_succ]
        rfl
      refine take_ (i := 9) (N := some 31) (v := ?_) (a' := ?_) #[true, true, true, true, true, true, true, true, true, true, false] rfl rfl (take_ofW HT_.out HW_.out (by kernel_rfl)) (fun _ _ _ h => h) (Or.inl ⟨by rfl, ?_⟩) hHeld ?_ ?_
      rotate_left
      · rintro w' ⟨s0, s1⟩
        go_simp
        with_reducible rfl
      rotate_left
      · simp only [Act.put, List.setIfInBounds_toArray, List.set_cons_zero, List.set_cons_succ]
        rfl
      refine last_ (i := 10) (N := none) #[true, true, true, true, true, true, true, true, true, true, true] rfl rfl (one_of HT_.out (by kernel_rfl)) (by decide) (fun K hK => ?_)
      refine skip_ (w1 := ?_) (by rfl) rfl ?_ ?_
      rotate_left
      · go_simp
        rfl
      refine hK.out _ _ ?_
      clear hK K
      refine done_ (done_of HT_.out (by kernel_rfl)) ?_
      refine NoPanic.normal ?_
      clear m1 m2 mf hHeld
      have HF7 := Aside0.mk ((HF3d.out).trans HF6'.out)
      obtain ⟨k0_, k1_, _, _, _⟩ := (HS6'.out).reads
      generalize w5.setCell ⟨hb, 1, none⟩ (.slice A5 (o.length + 1) c5) = W6 at *
      go_wp2
      go_ret
      rw [HT.out]
      exact ⟨_, ret_b (by rw [List.length_append, List.length_singleton, Bool.eq_iff_iff, decide_eq_true_eq, decide_eq_true_eq]; omega), by rw [List.take_of_length_le (by rw [List.length_append, List.length_singleton]; have := HOL.out; omega)]; exact HS6'.out, HF7.out⟩
    | some l =>
      obtain ⟨j, hj, hjl, hix⟩ : ∃ j, j < alts.length ∧ alts.getD j 0 = l ∧ ix = (j : Int) := by
        have h0 := HID.out
        rw [hf] at h0
        obtain ⟨j, a, b, c⟩ := h0
        exact ⟨j, a, b, by rw [c]; omega⟩
      subst hix
      have HLZ := Aside0.mk (show (l &&& x == 0) = true from by have := List.find?_some hf; exact this)
      have HLL := Aside0.mk (show l < 16777216 from by rw [← hjl]; exact HAL.out _ (getD_memN2 hj))
      have HT := Aside0.mk (show hitAll alts (k + 1) x wo = hitBits (hitAll alts k) x wo (bitsN (andN l wo)) by rw [HIT.out, hf])
      obtain ⟨ad, e, hk⟩ := Kd.at_int HRD.out (j : Int) (by omega) (by omega)
      subst e
      rw [show rd (ofN alts) (j : Int) = (l : Int) by rw [← hjl]; simp [rd, ofN, List.getD_eq_getElem?_getD, List.getElem?_eq_getElem hj], Int.toNat_natCast] at hk
      have hjz : (j : Int) < (alts.length : Int) := by omega
      have hnl : bits .andNot .i64 (l : Int) (wo : Int) = ((andN l wo : Nat) : Int) := i64_andNot (by have := HLL.out; omega) (by have := HWO.out; omega)
      have HY0 := Aside0.mk (show andN l wo < 16777216 from Nat.lt_of_le_of_lt (andN_le _ _) HLL.out)
      have HYX := Aside0.mk (show ∀ i, (andN l wo).testBit i = true → x.testBit i = false from fun i hi => and_zero_bit HLZ.out (andN_bit hi))
      have HTT := Aside0.mk (show o ++ hitAll alts (k + 1) x wo = o ++ hitBits (hitAll alts k) x wo (bitsN (andN l wo)) by rw [HT.out])
      generalize htot : o ++ hitAll alts (k + 1) x wo = tot at *
      clear HID HIT hf htot hj hjl HT HLZ HLL
      generalize andN l wo = y0 at *
      go_wp2
      clear hnl hk kh0 kh1 kx hjz
      go_loopg [8, 2] y0 (fun gg v8 v2 wi => ∃ (y wo : Nat) (oc : List Nat) (vi : Value), y ≤ gg ∧ v8 = .int .i64 (y : Int) ∧ v2 = .int .i64 (wo : Int) ∧ y < 16777216 ∧ Aside0 (wo < 16777216) ∧ Aside0 (oc.length ≤ 12) ∧ Aside0 (∀ i, y.testBit i = true → x.testBit i = false) ∧ Aside0 (tot = oc ++ hitBits (hitAll alts k) x wo (bitsN y)) ∧ Aside0 (HS w0 t0 hb (some ad) c alts vi oc wi) ∧ Aside0 (Fr t0 hb v w vi wi) ∧ Aside0 (wi.heap[w.heap.size]? = some (.cells #[.int .i64 (x : Int)] 3 (0, 0))) ∧ Aside0 (∀ k, vi.ownBlock = some k → k ≠ w.heap.size))
      case atStart => exact ⟨y0, wo, o, v, Nat.le_refl _, rfl, rfl, HY0.out, HWO, HOL, HYX, HTT, HS3, HF3, HBX3, HVX⟩
      case round =>
        clear HY0 HYX HTT HWO HOL HS3 HF3 HBX3 HVX HRD HATR
        obtain ⟨y, wo, oc, vi, hgg, rfl, rfl, hy, HWO, HOC, HYX, HTT, HS4, HF4, HBX4, HVX4⟩ := hrel
        by_cases h0 : y = 0
        · subst h0
          have HT := Aside0.mk (show tot = oc by rw [HTT.out, bitsN_zero]; simp [hitBits])
          clear HTT HYX
          go_wp2
          go_ret
          exact ⟨vi, ret_b (by rw [HT.out, decide_eq_true HOC.out]), by rw [HT.out, List.take_of_length_le (Nat.le_succ_of_le HOC.out)]; exact HS4.out, HF4.out⟩
        · have h0z : ¬ (y : Int) = 0 := by omega
          have hlow := i64_low h0 hy
          have hneg : wrap64 (-(y : Int)) = -(y : Int) := wr_id (by omega) (by omega)
          have HDR := Aside0.mk (i64_drop h0 hy)
          have HDL := Aside0.mk (drop_lt h0 hy)
          obtain ⟨hb1, _, hb3⟩ := lo_bits h0 hy
          have HXI := Aside0.mk (HYX.out _ hb1)
          have HOR := Aside0.mk (or_lt HX.out hb3)
          have HWR := Aside0.mk (or_lt HWO.out hb3)
          have HLN := Aside0.mk (or_len HXI.out hb3)
          have HPW := Aside0.mk (lo_pow h0 hy)
          have HYX2 := Aside0.mk (show ∀ i, (y &&& (y - 1)).testBit i = true → x.testBit i = false from fun i hi => HYX.out i (by rw [drop_bit h0 hy, Bool.and_eq_true] at hi; exact hi.1))
          have HTS := Aside0.mk (show tot = (oc ++ hitAll alts k (x ||| 2 ^ lo y) wo) ++ hitBits (hitAll alts k) x (wo ||| 2 ^ lo y) (bitsN (y &&& (y - 1))) by rw [HTT.out, bitsN_step h0 hy, hitBits, List.append_assoc])
          have hor := i64_or (a := x) (b := 2 ^ lo y) (by have := HX.out; omega) (by have := (HPW.out).1; omega)
          have HORW := Aside0.mk (i64_or (a := wo) (b := 2 ^ lo y) (by have := HWO.out; omega) (by have := (HPW.out).1; omega))
          have HREC := Aside0.mk ((IH.out) (x ||| 2 ^ lo y) wo vi oc wr HOR.out HWO.out (by rw [HLN.out]; have := HKL.out; omega) HOC.out HS4.out)
          have kx : wr.cell? ⟨w.heap.size, 0, none⟩ = some (.int .i64 (x : Int)) := (blk_cell HBX4.out 0).trans rfl
          clear hb1 hb3 HTT HYX h0 HLN
          generalize hitAll alts k (x ||| 2 ^ lo y) wo = sub at *
          generalize 2 ^ lo y = q at *
          go_wp2_with fail
          refine (HREC.out).mono ?_
          rintro E W5 ⟨v5, rfl, HS5, HF5⟩
          have HS5' := Aside0.mk HS5
          have HF5' := Aside0.mk ((HF4.out).trans HF5)
          have HBX5 := Aside0.mk ((HF5.keep _ (blk_lt HBX4.out) (by have := HXB.out; omega) (.inr (fun e => HVX4.out _ e.symm rfl))).trans HBX4.out)
          have HVX5 := Aside0.mk (show ∀ k, v5.ownBlock = some k → k ≠ w.heap.size from fun k hk => by
            rcases HF5.own with e | ⟨b, e, hb⟩
            · rw [e] at hk; exact HVX4.out k hk
            · rw [e] at hk; injection hk with hk; have := blk_lt HBX4.out; omega)
          clear HS5 HF5 kx HREC HS4 HF4 HBX4 HVX4
          cases hq : decide ((oc ++ sub).length ≤ 12) with
          | false =>
            have HGT := Aside0.mk (show 13 ≤ (oc ++ sub).length from by have := of_decide_eq_false hq; omega)
            clear hq hor
            go_wp2
            go_ret
            refine ⟨v5, ret_b ?_, ?_, HF5'.out⟩
            · rw [HTS.out, List.length_append, decide_eq_false (by have := HGT.out; omega)]
            · rw [HTS.out, List.take_append_of_le_length HGT.out]; exact HS5'.out
          | true =>
            have HLE := Aside0.mk (show (oc ++ sub).length ≤ 12 from of_decide_eq_true hq)
            have HS6 := Aside0.mk (show HS w0 t0 hb (some ad) c alts v5 (oc ++ sub) W5 from by have := HS5'.out; rw [List.take_of_length_le (Nat.le_succ_of_le HLE.out)] at this; exact this)
            have hdrop := HDR.out
            have horw := HORW.out
            clear hq hor HS5'
            go_wp2
            go_roundg (y &&& (y - 1))
            case measure => have := HDL.out; omega
            case rel => exact ⟨y &&& (y - 1), wo ||| q, oc ++ sub, v5, Nat.le_refl _, rfl, rfl, by have := HDL.out; omega, HWR, HLE, HYX2, HTS, HS6, HF5', HBX5, HVX5⟩
end Go.Proofs.YtbmcigakiibncaaGreatDoor.H
namespace Go.Proofs.YtbmcigakiibncaaGreatDoor.H
open Go.RowKit Go.Proofs.YtbmcigakiibncaaGreatDoorW.PrintWords Go.Proofs.YtbmcigakiibncaaGreatDoorW.PrintLast Go.Proofs.YtbmcigakiibncaaGreatDoorW.PrintMore
set_option linter.unusedVariables false
set_option linter.unusedSimpArgs false
def Gr (w w' : World) : Prop := ∃ q os, w' = Sort.grow (w.drewN q) os
theorem Gr.refl (w : World) : Gr w w := ⟨0, #[], by simp [World.drewN]⟩
theorem Gr.trans {a b c : World} (h : Gr a b) (k : Gr b c) : Gr a c := by
  obtain ⟨q, os, rfl⟩ := h
  obtain ⟨r, ps, rfl⟩ := k
  exact ⟨q + r, os ++ ps, by simp [Sort.grow, World.drewN, Nat.add_assoc, Array.append_assoc]⟩
theorem Gr.alloc {a b : World} (h : Gr a b) (o : Obj) : Gr a (b.alloc o) := h.trans ⟨0, #[o], by unfold Sort.grow World.drewN World.alloc; simp⟩
theorem Gr.drew {a b : World} (h : Gr a b) : Gr a b.drew := h.trans ⟨1, #[], by simp [World.drewN]⟩
theorem Gr.below {a b : World} (h : Gr a b) : Below a.heap.size a b := by
  obtain ⟨q, os, rfl⟩ := h
  exact ⟨rfl, rfl, rfl, by simp [Sort.grow, World.drewN], fun k hk => by simp [Sort.grow, World.drewN, Array.getElem?_append_left hk]⟩
set_option maxHeartbeats 2000000 in
theorem beforeG_calls (x y : Nd) (hx : smallN x) (hy : smallN y) (W : World) : Calls Tryz.prog 76 #[.agg #[.int .i64 x.f0, .int .i64 x.f1], .agg #[.int .i64 y.f0, .int .i64 y.f1]] W fun E w' => E = .returned (.int .i64 (befI x y)) ∧ Gr W w' := by
  obtain ⟨a1, a2, a3, a4⟩ := hx
  obtain ⟨b1, b2, b3, b4⟩ := hy
  have hG := ((Gr.refl W).alloc (.cells #[.int .i64 x.f0, .int .i64 x.f1] 83)).alloc (.cells #[.int .i64 y.f0, .int .i64 y.f1] 83)
  have hz1 := blk_alloc (blk_new W (.cells #[.int .i64 x.f0, .int .i64 x.f1] 83)) (.cells #[.int .i64 y.f0, .int .i64 y.f1] 83)
  have hz2 := blk_at2 W (.cells #[.int .i64 x.f0, .int .i64 x.f1] 83) (.cells #[.int .i64 y.f0, .int .i64 y.f1] 83)
  have HG := Aside0.mk hG
  clear hG
  go_enter Tryz.func76, Tryz.ntmps76
  go_upto_region 1 with (fail)
  generalize ((W.alloc (.cells #[.int .i64 x.f0, .int .i64 x.f1] 83)).alloc (.cells #[.int .i64 y.f0, .int .i64 y.f1] 83)) = W5 at *
  have hk0 : W5.cell? ⟨W.heap.size, 0, none⟩ = some (.int .i64 x.f0) := (blk_cell hz1 0).trans rfl
  have hk1 : W5.cell? ⟨W.heap.size, 1, none⟩ = some (.int .i64 x.f1) := (blk_cell hz1 1).trans rfl
  have hk2 : W5.cell? ⟨W.heap.size + 1, 0, none⟩ = some (.int .i64 y.f0) := (blk_cell hz2 0).trans rfl
  have hk3 : W5.cell? ⟨W.heap.size + 1, 1, none⟩ = some (.int .i64 y.f1) := (blk_cell hz2 1).trans rfl
  have HGD := Aside0.mk ((HG.out).drew)
  clear hz1 hz2
  have w1 : wrap64 (x.f0 - y.f0) = x.f0 - y.f0 := wr_id (by omega) (by omega)
  have w2 : wrap64 (x.f1 - y.f1) = x.f1 - y.f1 := wr_id (by omega) (by omega)
  have HV := Aside0.mk (show befI x y = if x.f0 = y.f0 then x.f1 - y.f1 else x.f0 - y.f0 from rfl)
  by_cases h : x.f0 = y.f0
  · have d1 : (x.f0 == y.f0) = true := by simpa using h
    have d2 : (x.f0 != y.f0) = false := by simpa using h
    have HV2 := Aside0.mk (show befI x y = x.f1 - y.f1 by rw [HV.out, if_pos h])
    have H := Aside0.mk h
    clear h
    go_wp2
    first
      | (go_ret; exact ⟨by rw [HV2.out]; rfl, HG.out⟩)
  · have d1 : (x.f0 == y.f0) = false := by simpa using h
    have d2 : (x.f0 != y.f0) = true := by simpa using h
    have HV2 := Aside0.mk (show befI x y = x.f0 - y.f0 by rw [HV.out, if_neg h])
    have H := Aside0.mk h
    clear h
    go_wp2
    first
      | (go_ret; exact ⟨by rw [HV2.out]; rfl, HG.out⟩)
set_option maxHeartbeats 4000000 in
set_option maxRecDepth 100000 in
theorem cmpG_calls (a b : List Nd) (A : Option Addr) (ca : Nat) (B : Option Addr) (cb : Nat) (w : World) (hra : Kd.C Q.k83 w A a.length a) (hrb : Kd.C Q.k83 w B b.length b) (ha : a.length ≤ 24) (hxa : ∀ x ∈ a, smallN x) (hxb : ∀ x ∈ b, smallN x) :
    Calls Tryz.prog 109 #[.slice A a.length ca, .slice B b.length cb, .func (.func 76) #[] #[]] w fun e w' => e = .returned (.int .i64 (cmpL a b)) ∧ Gr w w' := by
  have HRA := Aside0.mk hra
  have HRB := Aside0.mk hrb
  have HL := Aside0.mk ha
  have HXA := Aside0.mk hxa
  have HXB := Aside0.mk hxb
  clear hra hrb ha hxa hxb
  go_enter Tryz.func109, Tryz.ntmps109
  go_wp2
  go_loopg [13] a.length (fun gg v13 wi => ∃ j : Nat, a.length - j ≤ gg ∧ v13 = .int .i64 j ∧ j ≤ a.length ∧ j ≤ b.length ∧ Aside0 (Gr w wi) ∧ Aside0 (cmpL (a.drop j) (b.drop j) = cmpL a b))
  case atStart => exact ⟨0, by omega, rfl, by omega, by omega, ⟨Gr.refl _⟩, ⟨rfl⟩⟩
  case round =>
    obtain ⟨j, hgg, rfl, hj, hjb, HB, HE⟩ := hrel
    by_cases hlt : j < a.length
    · have hltz : (j : Int) < (a.length : Int) := by omega
      obtain ⟨ad, e, hx0, hx1⟩ := at_need HRA.out j hlt
      subst e
      replace hx0 := pw_cell_below (HB.out).below hx0
      replace hx1 := pw_cell_below (HB.out).below hx1
      have h1 := HXA.out _ (getD_memN hlt)
      by_cases hlb : j < b.length
      · have hlbz : ¬ (j : Int) ≥ (b.length : Int) := by omega
        have hlb2 : (j : Int) < (b.length : Int) := by omega
        obtain ⟨bd, e, hy0, hy1⟩ := at_need HRB.out j hlb
        subst e
        replace hy0 := pw_cell_below (HB.out).below hy0
        replace hy1 := pw_cell_below (HB.out).below hy1
        have h2 := HXB.out _ (getD_memN hlb)
        have hst := cmpL_drop hlt hlb
        rw [HE.out] at hst
        generalize a.getD j zN = x at *
        generalize b.getD j zN = y at *
        have HBe := Aside0.mk fun W : World => beforeG_calls x y h1 h2 W
        clear h1 h2
        generalize befI x y = v at *
        have HST := Aside0.mk hst
        clear hst
        have hal := ((Gr.refl wr).alloc (.cells #[.int .i64 x.f0, .int .i64 x.f1] 83)).alloc (.cells #[.int .i64 y.f0, .int .i64 y.f1] 83)
        have hz1 := blk_alloc (blk_new wr (.cells #[.int .i64 x.f0, .int .i64 x.f1] 83)) (.cells #[.int .i64 y.f0, .int .i64 y.f1] 83)
        have hz2 := blk_at2 wr (.cells #[.int .i64 x.f0, .int .i64 x.f1] 83) (.cells #[.int .i64 y.f0, .int .i64 y.f1] 83)
        have hy0' := pw_cell_below (below_alloc (Below.refl wr.heap.size wr) (.cells #[.int .i64 x.f0, .int .i64 x.f1] 83)) hy0
        have hy1' := pw_cell_below (below_alloc (Below.refl wr.heap.size wr) (.cells #[.int .i64 x.f0, .int .i64 x.f1] 83)) hy1
        clear hy0 hy1
        have HB2 := Aside0.mk ((HB.out).trans hal)
        clear hal
        go_upto_region 7 with (fail)
        generalize ((wr.alloc (.cells #[.int .i64 x.f0, .int .i64 x.f1] 83)).alloc (.cells #[.int .i64 y.f0, .int .i64 y.f1] 83)) = w5 at *
        have hk0 : w5.cell? ⟨wr.heap.size, 0, none⟩ = some (.int .i64 x.f0) := (blk_cell hz1 0).trans rfl
        have hk1 : w5.cell? ⟨wr.heap.size, 1, none⟩ = some (.int .i64 x.f1) := (blk_cell hz1 1).trans rfl
        have hk2 : w5.cell? ⟨wr.heap.size + 1, 0, none⟩ = some (.int .i64 y.f0) := (blk_cell hz2 0).trans rfl
        have hk3 : w5.cell? ⟨wr.heap.size + 1, 1, none⟩ = some (.int .i64 y.f1) := (blk_cell hz2 1).trans rfl
        clear hz1 hz2 hx0 hx1 hy0' hy1'
        by_cases hv : v = 0
        · subst hv
          have hst2 := HST.out
          rw [if_neg (by simp)] at hst2
          have HST2 := Aside0.mk hst2
          clear hst2 HST
          go_wp2_with fail
          refine (HBe.out _).mono ?_
          rintro E w6 ⟨rfl, hb⟩
          have HB6 := Aside0.mk ((HB2.out).trans hb)
          clear hb hk0 hk1 hk2 hk3 HB2
          go_wp2
          go_roundg (a.length - (j + 1))
          case measure => omega
          case rel => exact ⟨j + 1, by omega, by rw [wrap_succ (by omega) (by have := HL.out; omega)]; rfl, by omega, by omega, HB6, ⟨HST2.out.symm⟩⟩
        · have d1 : (v == 0) = false := beq_eq_false_iff_ne.2 hv
          have d2 : (v != 0) = true := bne_iff_ne.2 hv
          have hst2 := HST.out
          rw [if_pos hv] at hst2
          have HST2 := Aside0.mk hst2
          clear hst2 HST hv
          go_wp2_with fail
          refine (HBe.out _).mono ?_
          rintro E w6 ⟨rfl, hb⟩
          have HB6 := Aside0.mk ((HB2.out).trans hb)
          clear hb hk0 hk1 hk2 hk3 HB2
          go_wp2
          go_ret
          exact ⟨by rw [HST2.out]; rfl, HB6.out⟩
      · have hlbz : (j : Int) ≥ (b.length : Int) := by omega
        have hv := HE.out
        rw [show b.drop j = [] from List.drop_eq_nil_of_le (by omega), cmpL_end _ (by intro h; have := congrArg List.length h; rw [List.length_drop, List.length_nil] at this; omega)] at hv
        have HV := Aside0.mk hv
        clear hv h1
        generalize a.getD j zN = x at *
        have hal := (Gr.refl wr).alloc (.cells #[.int .i64 x.f0, .int .i64 x.f1] 83)
        have HB2 := Aside0.mk ((HB.out).trans hal)
        clear hal
        go_wp2
        go_ret
        exact ⟨by rw [← HV.out]; rfl, HB2.out⟩
    · have hltz : ¬ (j : Int) < (a.length : Int) := by omega
      have hje : j = a.length := by omega
      have hv := HE.out
      rw [hje, List.drop_length, cmpL_nil, List.length_drop] at hv
      by_cases hab : a.length < b.length
      · have habz : (a.length : Int) < (b.length : Int) := by omega
        rw [if_neg (by omega)] at hv
        have HV := Aside0.mk hv
        clear hv hje
        go_wp2
        go_ret
        exact ⟨by rw [← HV.out]; rfl, HB.out⟩
      · have habz : ¬ (a.length : Int) < (b.length : Int) := by omega
        rw [if_pos (by omega)] at hv
        have HV := Aside0.mk hv
        clear hv hje
        go_wp2
        go_ret
        exact ⟨by rw [← HV.out]; rfl, HB.out⟩
theorem listsG_calls (a b : List Nd) (A : Option Addr) (ca : Nat) (B : Option Addr) (cb : Nat) (w : World) (hra : Kd.C Q.k83 w A a.length a) (hrb : Kd.C Q.k83 w B b.length b) (ha : a.length ≤ 24) (hxa : ∀ x ∈ a, smallN x) (hxb : ∀ x ∈ b, smallN x) :
    Calls Tryz.prog 78 #[.slice A a.length ca, .slice B b.length cb] w fun e w' => e = .returned (.int .i64 (cmpL a b)) ∧ Gr w w' := by
  have H := Aside0.mk (cmpG_calls a b A ca B cb w hra hrb ha hxa hxb)
  clear hra hrb ha hxa hxb
  go_enter Tryz.func78, Tryz.ntmps78
  go_wp2_with fail
  refine (H.out).mono ?_
  rintro E w2 ⟨rfl, hb⟩
  have HB := Aside0.mk hb
  clear hb H
  go_wp2
  go_ret
  exact ⟨rfl, HB.out⟩
end Go.Proofs.YtbmcigakiibncaaGreatDoor.H
namespace Go.Proofs.YtbmcigakiibncaaGreatDoor.H
open Go.RowKit Go.Proofs.YtbmcigakiibncaaGreatDoorW.PrintWords Go.Proofs.YtbmcigakiibncaaGreatDoorW.PrintLast Go.Proofs.YtbmcigakiibncaaGreatDoorW.PrintMore
set_option linter.unusedVariables false
set_option linter.unusedSimpArgs false
theorem befI_zero {x y : Nd} (h : befI x y = 0) : x = y := by
  rcases x with ⟨a, b⟩
  rcases y with ⟨c, d⟩
  unfold befI at h
  simp only at h
  split at h
  · rename_i e; have h2 : b = d := by omega
    rw [show a = c from e, h2]
  · rename_i e; exact absurd (by omega) e
theorem befI_self (x : Nd) : befI x x = 0 := by unfold befI; rw [if_pos rfl]; omega
theorem befI_neg {x y : Nd} : befI x y < 0 ↔ 0 < befI y x := by
  unfold befI
  by_cases h : x.f0 = y.f0
  · rw [if_pos h, if_pos h.symm]; omega
  · rw [if_neg h, if_neg (fun e => h e.symm)]; omega
theorem befI_trans {x y z : Nd} (h : befI x y < 0) (k : befI y z < 0) : befI x z < 0 := by
  unfold befI at *
  split at h <;> split at k <;> split <;> omega
theorem cmpL_self : ∀ a : List Nd, cmpL a a = 0
  | [] => rfl
  | x :: a => by rw [cmpL, if_neg (by rw [befI_self]; simp)]; exact cmpL_self a
theorem cmpL_zero : ∀ {a b : List Nd}, cmpL a b = 0 → a = b
  | [], [], _ => rfl
  | [], _ :: _, h => by simp [cmpL] at h
  | _ :: _, [], h => by simp [cmpL] at h
  | x :: a, y :: b, h => by
    rw [cmpL] at h
    by_cases e : befI x y = 0
    · rw [if_neg (by simpa using e)] at h
      rw [befI_zero e, cmpL_zero h]
    · rw [if_pos e] at h; exact absurd h e
theorem cmpL_neg : ∀ {a b : List Nd}, cmpL a b < 0 ↔ 0 < cmpL b a
  | [], [] => by simp [cmpL]
  | [], _ :: _ => by simp [cmpL]
  | _ :: _, [] => by simp [cmpL]
  | x :: a, y :: b => by
    rw [cmpL, cmpL]
    by_cases e : befI x y = 0
    · have e2 : befI y x = 0 := by rw [befI_zero e]; exact befI_self _
      rw [if_neg (by simpa using e), if_neg (by simpa using e2)]
      exact cmpL_neg
    · have e2 : befI y x ≠ 0 := fun h => e (by rw [befI_zero h]; exact befI_self _)
      rw [if_pos e, if_pos e2]
      exact befI_neg
theorem cmpL_trans : ∀ {a b c : List Nd}, cmpL a b < 0 → cmpL b c < 0 → cmpL a c < 0
  | [], [], _, h, _ => by simp [cmpL] at h
  | [], _ :: _, [], _, k => by simp [cmpL] at k
  | [], _ :: _, _ :: _, _, _ => by simp [cmpL]
  | _ :: _, [], _, h, _ => by simp [cmpL] at h
  | _ :: _, _ :: _, [], _, k => by simp [cmpL] at k
  | x :: a, y :: b, z :: c, h, k => by
    rw [cmpL] at h k ⊢
    by_cases e : befI x y = 0
    · rw [if_neg (by simpa using e)] at h
      have exy := befI_zero e
      subst exy
      by_cases e2 : befI x z = 0
      · rw [if_neg (by simpa using e2)] at k ⊢
        exact cmpL_trans h k
      · rw [if_pos e2] at k ⊢; exact k
    · rw [if_pos e] at h
      by_cases e2 : befI y z = 0
      · have eyz := befI_zero e2
        subst eyz
        rw [if_pos e]; exact h
      · rw [if_pos e2] at k
        have := befI_trans h k
        rw [if_pos (by omega)]; exact this
def leL (a b : List Nd) : Prop := ¬ cmpL b a < 0
theorem leL_iff {a b : List Nd} : leL a b ↔ cmpL a b < 0 ∨ a = b := by
  unfold leL
  constructor
  · intro h
    by_cases e : cmpL b a = 0
    · exact .inr (cmpL_zero e).symm
    · exact .inl (cmpL_neg.2 (by omega))
  · rintro (h | rfl)
    · have := cmpL_neg.1 h; omega
    · rw [cmpL_self]; omega
theorem leL_trans {a b c : List Nd} (h : leL a b) (k : leL b c) : leL a c := by
  rw [leL_iff] at *
  rcases h with h | rfl
  · rcases k with k | rfl
    · exact .inl (cmpL_trans h k)
    · exact .inl h
  · exact k
theorem leL_anti {a b : List Nd} (h : leL a b) (k : leL b a) : a = b := by
  rw [leL_iff] at h
  rcases h with h | h
  · exact absurd h k
  · exact h
def insL (x : List Nd) : List (List Nd) → List (List Nd)
  | [] => [x]
  | y :: r => if cmpL y x < 0 then y :: insL x r else x :: y :: r
def sortL : List (List Nd) → List (List Nd)
  | [] => []
  | x :: r => insL x (sortL r)
theorem insL_perm (x : List Nd) : ∀ l, (insL x l).Perm (x :: l)
  | [] => List.Perm.refl _
  | y :: r => by
    rw [insL]
    split
    · exact ((insL_perm x r).cons y).trans (List.Perm.swap x y r)
    · exact List.Perm.refl _
theorem sortL_perm : ∀ l, (sortL l).Perm l
  | [] => List.Perm.refl _
  | x :: r => (insL_perm x (sortL r)).trans ((sortL_perm r).cons x)
theorem insL_sorted (x : List Nd) : ∀ {l : List (List Nd)}, l.Pairwise leL → (insL x l).Pairwise leL
  | [], _ => List.pairwise_singleton _ _
  | y :: r, h => by
    rw [insL]
    have hy := (List.pairwise_cons.1 h).1
    have hr := (List.pairwise_cons.1 h).2
    split
    · rename_i hc
      refine List.pairwise_cons.2 ⟨fun z hz => ?_, insL_sorted x hr⟩
      rcases List.mem_cons.1 ((insL_perm x r).mem_iff.1 hz) with rfl | hz
      · exact leL_iff.2 (.inl hc)
      · exact hy z hz
    · rename_i hc
      refine List.pairwise_cons.2 ⟨fun z hz => ?_, h⟩
      rcases List.mem_cons.1 hz with rfl | hz
      · exact hc
      · exact leL_trans hc (hy z hz)
theorem sortL_sorted : ∀ l, (sortL l).Pairwise leL
  | [] => List.Pairwise.nil
  | x :: r => insL_sorted x (sortL_sorted r)
theorem sorted_one : ∀ {l m : List (List Nd)}, l.Perm m → l.Pairwise leL → m.Pairwise leL → l = m
  | [], m, h, _, _ => (List.Perm.nil_eq h)
  | a :: l, [], h, _, _ => absurd h.length_eq (by simp)
  | a :: l, b :: m, h, h1, h2 => by
    have e : a = b := by
      have ha : a ∈ b :: m := h.mem_iff.1 (List.mem_cons_self ..)
      have hb : b ∈ a :: l := h.mem_iff.2 (List.mem_cons_self ..)
      rcases List.mem_cons.1 ha with e | ha
      · exact e
      rcases List.mem_cons.1 hb with e | hb
      · exact e.symm
      exact leL_anti ((List.pairwise_cons.1 h1).1 b hb) ((List.pairwise_cons.1 h2).1 a ha)
    subst e
    rw [sorted_one h.cons_inv (List.pairwise_cons.1 h1).2 (List.pairwise_cons.1 h2).2]
end Go.Proofs.YtbmcigakiibncaaGreatDoor.H
namespace Go.Proofs.YtbmcigakiibncaaGreatDoor.H
open Go.RowKit Go.Proofs.YtbmcigakiibncaaGreatDoorW.PrintWords Go.Proofs.YtbmcigakiibncaaGreatDoorW.PrintLast Go.Proofs.YtbmcigakiibncaaGreatDoorW.PrintMore
set_option linter.unusedVariables false
set_option linter.unusedSimpArgs false
theorem heap_sortedG {enc : Nat → Value} {w : World} {g n : Nat} {os : Array Obj} {cur : Array Value} {e : TypeId} {fr : Nat × Nat} (d : Array Nat) (hb : w.heap[g]? = some (.cells cur e fr)) :
    (sortWorld enc w g 0 n d os).heap[g]? = some (.cells (Sort.putCells enc 0 d cur) e fr) := by
  have hg : g < w.heap.size := (Array.getElem?_eq_some_iff.1 hb).1
  unfold sortWorld
  rw [Sort.heap_grow_old _ _ (by simpa using hg)]
  simp [Sort.putRow, Sort.mapBlock, Sort.ahead, Array.getElem?_modify, hb, Sort.onCells]
theorem grownBy_sortedG {enc : Nat → Value} {w : World} {g n : Nat} {os : Array Obj} (d : Array Nat) : w.grownBy (sortWorld enc w g 0 n d os) (some g) := by
  refine ⟨rfl, rfl, rfl, by simp [sortWorld, Sort.grow], fun k hk hne => ?_⟩
  unfold sortWorld
  rw [Sort.heap_grow_old _ _ (by simpa using hk)]
  have : g ≠ k := fun e => hne (by rw [e])
  simp [Sort.putRow, Sort.mapBlock, Sort.ahead, Array.getElem?_modify, this]
theorem take_putCellsG {enc : Nat → Value} (cur : Array Value) (d : Array Nat) (h : d.size ≤ cur.size) : (Sort.putCells enc 0 d cur).toList.take d.size = d.toList.map enc := by
  apply List.ext_getElem?
  intro j
  by_cases hj : j < d.size
  · rw [List.getElem?_take_of_lt hj, Array.getElem?_toList]
    simp [Sort.putCells, hj, show j < cur.size by omega]
  · rw [List.getElem?_take_eq_none (by omega), List.getElem?_eq_none (by simp; omega)]
theorem getD_memY {α : Type} {l : List α} {i : Nat} (d : α) (h : i < l.length) : l.getD i d ∈ l := by
  rw [List.getD_eq_getElem?_getD, List.getElem?_eq_getElem h]; exact List.getElem_mem h
theorem eg78 : ∀ args w, (callFunc 78 args).run Tryz.prog w = .ok (.enter 78 args) w := enters_of Tryz.func78 (by kernel_rfl) rfl
def SortE (base : Nat) (ok : Nat → Prop) (v : Value) (D : List (List Nd)) (w : World) (e : Ending) (w' : World) : Prop :=
  e = .returned (.tuple #[]) ∧ kA1.R 69 w' base ok v (sortL D) ∧ w.grownBy w' v.ownBlock
theorem swoL (f : Nat → List Nd) : Sort.SWO (ltOf fun i j => cmpL (f i) (f j)) where
  irrefl x := by show decide (cmpL (f x) (f x) < 0) = false; rw [cmpL_self]; rfl
  trans x y z h1 h2 := by
    unfold ltOf at *
    rw [decide_eq_true_eq] at *
    exact cmpL_trans h1 h2
  ntrans x y z h1 h2 := by
    unfold ltOf at *
    rw [decide_eq_false_iff_not] at *
    exact leL_trans h2 h1
theorem sortG_calls (base : Nat) (ok : Nat → Prop) (v : Value) (D : List (List Nd)) (w : World) (hR : kA1.R 69 w base ok v D) (hD : ∀ l ∈ D, l.length ≤ 24 ∧ ∀ x ∈ l, smallN x) (hn : D.length ≤ 100) :
    Calls Tryz.prog 97 #[v, .func (.func 78) #[] #[]] w (SortE base ok v D w) := by
  have hR0 := hR
  obtain ⟨hok, inner, ho, hr⟩ := hR
  rcases ho.2 with ⟨rfl, h0⟩ | ⟨g, cap, cur, rfl, hb, hh, hnc, hcm, hcs, htake⟩
  · obtain rfl : D = [] := List.length_eq_zero_iff.1 h0
    have hN := AnyF.slices_SortFunc_none (P := Tryz.prog) (ρ := Tryz.sortN_ren) { Tryz.sortN with } none 0 (.func (.func 78) #[] #[]) w
    refine hN.mono ?_
    rintro e w' ⟨rfl, rfl⟩
    exact ⟨rfl, hR0, ⟨rfl, rfl, rfl, Nat.le_refl _, fun _ _ _ => rfl⟩⟩
  · have hsz : kA1.sz = 1 := rfl
    rw [hsz] at htake hcs hr
    rw [Nat.mul_one] at htake hcs
    have hil : inner.length = D.length := by have := hr.1; rw [Nat.mul_one] at this; exact this
    have hM : ∀ i, Kd.R Q.k83 83 w base (fun k => ok k ∧ k ≠ g) (inner.getD i (.slice none 0 0)) (D.getD i []) := by
      intro i
      by_cases hi : i < D.length
      · have h1 := hr.2 i (D.getD i []) (by rw [List.getD_eq_getElem?_getD, List.getElem?_eq_getElem hi]; rfl)
        obtain ⟨u, hu, hR⟩ := h1
        have e : inner.getD i (.slice none 0 0) = u := by
          have hi' : i < inner.length := by omega
          rw [Nat.mul_one, List.drop_eq_getElem_cons hi', List.take_succ_cons, List.take_zero] at hu
          injection hu with hu _
          rw [List.getD_eq_getElem?_getD, List.getElem?_eq_getElem hi']
          exact hu
        rw [e]
        exact Kd.R_mono hR (fun k hk => ⟨hk.1, fun e => hk.2 (by rw [e]; rfl)⟩)
      · rw [List.getD_eq_getElem?_getD, List.getElem?_eq_none (by omega), List.getD_eq_getElem?_getD, List.getElem?_eq_none (by omega)]
        exact Kd.R_nil _ _ _ _ _
    have hlist : ∀ i, (D.getD i []).length ≤ 24 ∧ ∀ x ∈ D.getD i [], smallN x := by
      intro i
      by_cases hi : i < D.length
      · exact hD _ (getD_memY [] hi)
      · rw [List.getD_eq_getElem?_getD, List.getElem?_eq_none (by omega)]
        exact ⟨by simp, fun x hx => by cases hx⟩
    have hgl := blk_lt hh
    let enc : Nat → Value := fun i => inner.getD i (.slice none 0 0)
    let lst : Nat → List Nd := fun i => D.getD i []
    have hmove : ∀ m os (dk : Array Nat) i, Kd.R Q.k83 83 (sortWorld enc w g 0 m dk os) base (fun k => ok k ∧ k ≠ g) (enc i) (lst i) := fun m os dk i =>
      R_same (hM i) (fun k hk hlt => (grownBy_sortedG dk).block k hlt (fun e => hk.2 (Option.some.inj e)))
    have hcmp : CmpLays1 Tryz.prog 78 #[] enc (fun i j => cmpL (lst i) (lst j)) g 0 (Array.range D.length).size w := by
      intro m os dk hs x y
      have hx := hmove m os dk x
      have hy := hmove m os dk y
      obtain ⟨A, ca, ea⟩ := Kd.R_slice hx
      obtain ⟨B, cb, eb⟩ := Kd.R_slice hy
      rw [ea] at hx ⊢
      rw [eb] at hy ⊢
      exact listsG_calls (lst x) (lst y) A ca B cb _ (Kd.R_reads' hx).2.2 (Kd.R_reads' hy).2.2 (hlist x).1 (hlist x).2 (hlist y).2
    have hH : Sort.Holds enc w g 0 (Array.range D.length) := by
      intro j hj
      have hj' : j < D.length := by simpa using hj
      refine ⟨?_, blk_frozen hh _⟩
      rw [Nat.zero_add, blk_cell hh j]
      have h1 : (cur.toList.take D.length)[j]? = inner[j]? := by rw [htake]
      rw [List.getElem?_take_of_lt hj', Array.getElem?_toList] at h1
      rw [h1]
      simp [enc, hj', List.getD_eq_getElem?_getD, show j < inner.length by omega]
    have h := Any.slices_SortFunc (P := Tryz.prog) (ρ := Tryz.sortN_ren) Tryz.sortN enc (fun i => by obtain ⟨A, c, e⟩ := Kd.R_slice (hM i); show (inner.getD i (.slice none 0 0)).oneCell' = true; rw [e]; rfl) _ (swoL lst) 78 #[] g 0 cap (Array.range D.length) w eg78 hcmp hH hgl (by simp; omega)
    rw [Array.size_range] at h
    refine h.mono ?_
    rintro e w' ⟨rfl, d', n, os, hp, hs, rfl⟩
    have hds : d'.size = D.length := by have := hp.1; rw [this, Array.size_range]
    have hperm : (d'.toList.map lst).Perm D := by
      have h1 := hp.2.2
      rw [show d'.extract 0 D.length = d' by rw [← hds]; exact Array.extract_size, show (Array.range D.length).extract 0 D.length = Array.range D.length by rw [Array.extract_eq_self_of_le (by simp)]] at h1
      have h2 := h1.map lst
      refine h2.trans (List.Perm.of_eq ?_)
      apply List.ext_getElem?
      intro i
      by_cases hi : i < D.length
      · simp [lst, hi, List.getD_eq_getElem?_getD]
      · rw [List.getElem?_eq_none (by simp; omega), List.getElem?_eq_none (by omega)]
    have hsort : (d'.toList.map lst).Pairwise leL := by
      rw [List.pairwise_iff_getElem]
      intro i j hi hj hij
      rw [List.length_map, Array.length_toList] at hi hj
      have h1 := hs i j (Nat.zero_le _) hij (by omega)
      unfold ltOf at h1
      rw [decide_eq_false_iff_not, getElem!_pos d' i hi, getElem!_pos d' j hj] at h1
      simpa [leL] using h1
    have hD2 : d'.toList.map lst = sortL D := sorted_one (hperm.trans (sortL_perm D).symm) hsort (sortL_sorted D)
    have hlen : (d'.toList.map lst).length = D.length := by simp [hds]
    refine ⟨rfl, ?_, grownBy_sortedG d'⟩
    rw [← hD2]
    refine ⟨hok, d'.toList.map enc, ⟨?_, .inr ⟨g, cap, _, ?_, hb, heap_sortedG d' hh, ?_, hcm, ?_, ?_⟩⟩, ?_, ?_⟩
    · simp [hsz]
    · rw [hlen]
    · rw [hlen]; exact hnc
    · rw [hsz, Nat.mul_one]; simp [Sort.putCells, hcs]
    · rw [hsz, Nat.mul_one, hlen, ← hds]
      exact take_putCellsG cur d' (by omega)
    · simp [hsz]
    · intro j p hj
      obtain ⟨hjl, hjp⟩ := List.getElem?_eq_some_iff.1 hj
      rw [List.length_map, Array.length_toList] at hjl
      have hjl2 : j < (d'.toList.map enc).length := by simpa using hjl
      refine ⟨enc d'[j], ?_, ?_⟩
      · rw [hsz, Nat.mul_one, List.drop_eq_getElem_cons hjl2, List.take_succ_cons, List.take_zero]
        simp
      · rw [← hjp, List.getElem_map, Array.getElem_toList]
        exact Kd.R_mono (hmove n os d' d'[j]) (fun k hk => ⟨hk.1, fun e => hk.2 (Option.some.inj e)⟩)
end Go.Proofs.YtbmcigakiibncaaGreatDoor.H
namespace Go.Proofs.YtbmcigakiibncaaGreatDoor.H
open Go.RowKit Go.Proofs.YtbmcigakiibncaaGreatDoorW.PrintWords Go.Proofs.YtbmcigakiibncaaGreatDoorW.PrintLast Go.Proofs.YtbmcigakiibncaaGreatDoorW.PrintMore
set_option linter.unusedVariables false
set_option linter.unusedSimpArgs false
def spotN (x : Nd) : Nat := (x.f0 * 6 + x.f1).toNat
def maskF (m : Nat) (l : List Nd) : Nat := l.foldl (fun m x => m ||| 2 ^ spotN x) m
def maskN (l : List Nd) : Nat := maskF 0 l
def needI (i : Nat) : Nd := ⟨((i / 6 : Nat) : Int), ((i % 6 : Nat) : Int)⟩
def unN (m : Nat) : List Nd := (bitsN m).map needI
def hitsOf (al : List (List Nd)) : List Nat := hitAll (al.map maskN) 25 0 0
def dualD (al : List (List Nd)) : List (List Nd) := sortL (((hitsOf al).take 13).map unN)
def dualOk (al : List (List Nd)) : Bool := decide ((hitsOf al).length ≤ 12)
def InN (x : Nd) : Prop := 0 ≤ x.f0 ∧ x.f0 < 4 ∧ 0 ≤ x.f1 ∧ x.f1 < 6
theorem spot_lt {x : Nd} (h : InN x) : spotN x < 24 ∧ x.f0 * 6 + x.f1 = (spotN x : Int) := by unfold InN at h; unfold spotN; omega
theorem maskF_lt : ∀ (l : List Nd) (m : Nat), m < 16777216 → (∀ x ∈ l, InN x) → maskF m l < 16777216
  | [], m, hm, _ => hm
  | x :: r, m, hm, h => maskF_lt r _ (or_lt hm (spot_lt (h x (List.mem_cons_self ..))).1) (fun y hy => h y (List.mem_cons_of_mem _ hy))
theorem maskN_lt {l : List Nd} (h : ∀ x ∈ l, InN x) : maskN l < 16777216 := maskF_lt l 0 (by decide) h
theorem bits_lt {m i : Nat} (h : i < (bitsN m).length) : (bitsN m).getD i 0 < 24 := by
  have h1 : (bitsN m).getD i 0 ∈ bitsN m := getD_memY 0 h
  exact (bitsN_mem.1 h1).1
theorem unN_small (m : Nat) : (unN m).length ≤ 24 ∧ ∀ x ∈ unN m, InN x := by
  refine ⟨by unfold unN; rw [List.length_map]; exact bitsN_len m, fun x hx => ?_⟩
  unfold unN at hx
  obtain ⟨i, hi, rfl⟩ := List.mem_map.1 hx
  have := (bitsN_mem.1 hi).1
  unfold InN needI
  simp only
  omega
theorem InN.small {x : Nd} (h : InN x) : smallN x := by unfold InN at h; unfold smallN; omega
theorem or_spot {m : Nat} {x : Nd} (hm : m < 16777216) (h : InN x) : bits .or .i64 (m : Int) (wrap64 (2 ^ (x.f0 * 6 + x.f1).toNat)) = ((m ||| 2 ^ spotN x : Nat) : Int) := by
  have h1 := (spot_lt h).1
  have h2 : 2 ^ spotN x < 16777216 := Nat.lt_of_lt_of_le (Nat.pow_lt_pow_right (by decide) h1) (by decide)
  have e : ((2 : Int) ^ (x.f0 * 6 + x.f1).toNat) = ((2 ^ spotN x : Nat) : Int) := by unfold spotN; push_cast; rfl
  rw [e]
  generalize 2 ^ spotN x = q at *
  rw [wr_id (by omega) (by omega)]
  exact i64_or (by omega) (by omega)
theorem hitBits_lt {rec : Nat → Nat → List Nat} {x : Nat} (h : ∀ i wo, i < 24 → ∀ m ∈ rec (x ||| 2 ^ i) wo, m < 16777216) : ∀ (l : List Nat) (wo : Nat), (∀ i ∈ l, i < 24) → ∀ m ∈ hitBits rec x wo l, m < 16777216
  | [], _, _, m, hm => by simp [hitBits] at hm
  | i :: r, wo, hl, m, hm => by
    rw [hitBits] at hm
    rcases List.mem_append.1 hm with hm | hm
    · exact h i wo (hl i (List.mem_cons_self ..)) m hm
    · exact hitBits_lt h r _ (fun j hj => hl j (List.mem_cons_of_mem _ hj)) m hm
theorem hitAll_lt (alts : List Nat) : ∀ (k x wo : Nat), x < 16777216 → ∀ m ∈ hitAll alts k x wo, m < 16777216
  | 0, _, _, _, m, hm => by simp [hitAll] at hm
  | k + 1, x, wo, hx, m, hm => by
    rw [hitAll] at hm
    split at hm
    · split at hm
      · rw [List.mem_singleton] at hm; rw [hm]; exact hx
      · exact hitBits_lt (fun i wo hi m hm => hitAll_lt alts k _ wo (or_lt hx hi) m hm) _ _ (fun i hi => (bitsN_mem.1 hi).1) m hm
    · cases hm
theorem hits_lt {al : List (List Nd)} (h : ∀ l ∈ al.map maskN, l < 16777216) : ∀ m ∈ hitsOf al, m < 16777216 := hitAll_lt _ 25 0 0 (by decide)
structure HB1 (w : World) (v : Value) (ms : List Nat) (W : World) : Prop where
  below : Below w.heap.size w W
  blk : W.heap[w.heap.size]? = some (.cells #[v, .slice none 0 0] 124 (0, 0))
  ra : Kd.R (Kd.int .i64) 3 W w.heap.size (fun k => k ≠ w.heap.size ∧ w.heap.size ≤ k) v (ofN ms)
theorem HB1.move {w W W1 : World} {v : Value} {ms : List Nat} (h : HB1 w v ms W) (hb : Below W.heap.size W W1) : HB1 w v ms W1 := ⟨below_then h.below h.below.size hb, blk_below h.blk hb, Kd.R_below h.ra hb⟩
theorem HB1.start (w : World) : HB1 w (.slice none 0 0) [] (w.alloc (.cells #[.slice none 0 0, .slice none 0 0] 124)) := ⟨below_alloc (Below.refl _ _) _, blk_new w _, Kd.R_nil _ _ _ _ _⟩
theorem HB1.put {w W W1 : World} {v v1 : Value} {ms : List Nat} (h : HB1 w v ms W) (m : Nat) (hr : Kd.R (Kd.int .i64) 3 W1 w.heap.size (fun k => k ≠ w.heap.size ∧ w.heap.size ≤ k) v1 (ofN ms ++ [(m : Int)])) (hb1 : Below w.heap.size w W1) (hg : W.grownBy W1 v.ownBlock) :
    HB1 w v1 (ms ++ [m]) (W1.setCell ⟨w.heap.size, 0, none⟩ v1) := by
  have hbk := blk_grown h.blk hg (fun e => (h.ra.1 _ e.symm).1 rfl)
  refine ⟨hb1.setCell (p := ⟨w.heap.size, 0, none⟩) (Nat.le_refl _) _, blk_set hbk 0 v1, ?_⟩
  rw [show ofN (ms ++ [m]) = ofN ms ++ [(m : Int)] by unfold ofN; simp]
  exact R_same hr (fun k hk _ => Below.heap_setCell W1 _ _ k hk.1)
theorem HB1.hs {w W : World} {A : Option Addr} {c : Nat} {ms : List Nat} (h : HB1 w (.slice A ms.length c) ms W) : HS w W.heap.size w.heap.size A c ms (.slice none 0 0) [] W :=
  ⟨h.below, Nat.le_refl _, blk_lt h.blk, Nat.le_refl _, h.blk, Kd.R_mono (Kd.R_bound h.ra) (fun k hk => ⟨hk.2.2.1, hk.1.1⟩), Kd.R_nil _ _ _ _ _⟩
def DualE (al : List (List Nd)) (w : World) (E : Ending) (w' : World) : Prop :=
  ∃ v, E = .returned (.tuple #[v, .bool (dualOk al)]) ∧ kA1.R 69 w' w.heap.size (fun k => w.heap.size ≤ k) v (dualD al) ∧ Below w.heap.size w w'
set_option maxHeartbeats 16000000 in
set_option maxRecDepth 100000 in
theorem dual_calls (al : List (List Nd)) (A : Option Addr) (c : Nat) (w : World) (hr : Kd.C kA1 w A al.length al) (hl : al.length ≤ 12) (hx : ∀ l ∈ al, l.length ≤ 24 ∧ ∀ x ∈ l, InN x) (ht : TabD w) :
    Calls Tryz.prog 50 #[.slice A al.length c] w (DualE al w) := by
  have HR := Aside0.mk hr
  have HL := Aside0.mk hl
  have HX := Aside0.mk hx
  have HT := Aside0.mk ht
  have HS0 := Aside0.mk (HB1.start w)
  clear hr hl hx ht
  go_enter Tryz.func50, Tryz.ntmps50
  go_upto_region 2 with (fail)
  generalize w.alloc (.cells #[.slice none 0 0, .slice none 0 0] 124) = W1 at *
  go_wp2
  go_loopg [21] al.length (fun gg v21 wi => ∃ (i : Nat) (va : Value), i ≤ al.length ∧ al.length - i ≤ gg ∧ v21 = .int .i64 i ∧ Aside0 (HB1 w va ((al.take i).map maskN) wi))
  case atStart => exact ⟨0, _, Nat.zero_le _, Nat.le_refl _, rfl, HS0⟩
  case round =>
    clear HS0
    obtain ⟨i, va, hi, hgg, rfl, HS1⟩ := hrel
    by_cases hlt : i < al.length
    · have hltz : (i : Int) < (al.length : Int) := by omega
      have HLT := Aside0.mk hlt
      obtain ⟨ad, A0, c0, e, hk, hc0, hrow⟩ := at_sl HR.out i hlt
      subst e
      have hk2 := pw_cell_below (HS1.out).below hk
      have HROW := Aside0.mk hrow
      have HXL := Aside0.mk (HX.out _ (getD_memY [] hlt))
      have HKZ := Aside0.mk (show wrap64 ((i : Int) + 1) = ((i + 1 : Nat) : Int) by rw [wr_id (by omega) (by have := HL.out; omega)]; rfl)
      have HTK := Aside0.mk (show (al.take (i + 1)).map maskN = (al.take i).map maskN ++ [maskN (al.getD i [])] by
        rw [List.take_add_one, List.map_append, List.getD_eq_getElem?_getD, List.getElem?_eq_getElem hlt]; rfl)
      clear hk hc0 hrow hlt hi
      generalize al.getD i [] = l at *
      go_wp2
      clear hk2 hltz
      go_loopg [27, 7] l.length (fun gg v27 v7 wi => ∃ (j m : Nat), j ≤ l.length ∧ l.length - j ≤ gg ∧ v27 = .int .i64 j ∧ v7 = .int .i64 (m : Int) ∧ m < 16777216 ∧ Aside0 (maskF m (l.drop j) = maskN l) ∧ Aside0 (HB1 w va ((al.take i).map maskN) wi))
      case atStart => exact ⟨0, 0, Nat.zero_le _, Nat.le_refl _, rfl, rfl, by decide, ⟨rfl⟩, HS1⟩
      case round =>
        clear HS1
        obtain ⟨j, m, hj, hgg, rfl, rfl, hm, HM, HS2⟩ := hrel
        by_cases hlt : j < l.length
        · have hltz : (j : Int) < (l.length : Int) := by omega
          have HLJ := Aside0.mk hlt
          obtain ⟨ad2, e, hk, hkb⟩ := at_need HROW.out j hlt
          subst e
          have hk2 := pw_cell_below (HS2.out).below hk
          have hk3 := pw_cell_below (HS2.out).below hkb
          have HIN := Aside0.mk ((HXL.out).2 _ (getD_memY zN hlt))
          have HDJ := Aside0.mk (show l.drop j = l.getD j zN :: l.drop (j + 1) by
            rw [List.drop_eq_getElem_cons hlt, List.getD_eq_getElem?_getD, List.getElem?_eq_getElem hlt]; rfl)
          have HKJ := Aside0.mk (show wrap64 ((j : Int) + 1) = ((j + 1 : Nat) : Int) by rw [wr_id (by omega) (by have := (HXL.out).1; omega)]; rfl)
          clear hk hkb hlt hj
          generalize l.getD j zN = x at *
          have HSA := Aside0.mk ((HS2.out).move (below_alloc (Below.refl _ _) (.cells #[.int .i64 x.f0, .int .i64 x.f1] 83)))
          have k8 : (wr.alloc (.cells #[.int .i64 x.f0, .int .i64 x.f1] 83)).cell? ⟨wr.heap.size, 0, none⟩ = some (.int .i64 x.f0) := (blk_cell (blk_new wr _) 0).trans rfl
          have k9 : (wr.alloc (.cells #[.int .i64 x.f0, .int .i64 x.f1] 83)).cell? ⟨wr.heap.size, 1, none⟩ = some (.int .i64 x.f1) := (blk_cell (blk_new wr _) 1).trans rfl
          go_upto_region 9 with (fail)
          clear hk2 hk3 HS2
          generalize wr.alloc (.cells #[.int .i64 x.f0, .int .i64 x.f1] 83) = W8 at *
          have hin := HIN.out
          obtain ⟨i1, i2, i3, i4⟩ := hin
          have HOS := Aside0.mk (or_spot hm HIN.out)
          have HML := Aside0.mk (or_lt hm (spot_lt HIN.out).1)
          go_wp2
          go_roundg (l.length - (j + 1))
          case measure => have := HLJ.out; omega
          case rel => exact ⟨j + 1, m ||| 2 ^ spotN x, HLJ.out, Nat.le_refl _, by rw [HKJ.out], by rw [HOS.out], HML.out, ⟨by rw [← HM.out, HDJ.out]; rfl⟩, HSA⟩
        · obtain rfl : j = l.length := by omega
          have HMM := Aside0.mk (show m = maskN l by rw [← HM.out, List.drop_length]; rfl)
          have k0 : wr.cell? ⟨w.heap.size, 0, none⟩ = some va := (blk_cell (HS2.out).blk 0).trans rfl
          have HLM := Aside0.mk (show (ofN ((al.take i).map maskN)).length ≤ 12 by rw [ofN_len, List.length_map, List.length_take]; have := HL.out; omega)
          have HLI := Aside0.mk (show (ofN ((al.take i).map maskN) ++ [(m : Int)]).length = i + 1 by rw [List.length_append, ofN_len, List.length_map, List.length_take, List.length_singleton]; have := HLT.out; omega)
          clear HM hj hgg hlt
          go_wp2_with ((with_reducible refine gate_builtin (b := .append) (xs := #[.tmp 45, .tmp 47]) rfl ?_); at_builtin; refine Kd.R_append (Kd.int .i64) (w0 := w) w.heap.size rfl (.tmp 45) (.tmp 47) 22 3 (.int .i64 0) 8 rfl Tryz.underlying22 Q.info3 rfl (by decide) (by omega) va (ofN ((al.take i).map maskN)) (m : Int) [.int .i64 (m : Int)] (fun k => k ≠ w.heap.size ∧ w.heap.size ≤ k) (fun _ => False) rfl rfl rfl (fun _ hk => hk.elim) (fun k hk => by have h1 := blk_lt (HS2.out).blk; have h2 : wr.heap.size ≤ k := hk; exact ⟨by omega, by omega⟩) (HS2.out).ra (HS2.out).below (HS2.out).below.size (by have := HLM.out; omega) ?_; intro v5 w5 ho5 hb5 hg5 hat5; have HS5 := Aside0.mk ((HS2.out).put m ho5 hb5 hg5); have HBK := Aside0.mk (blk_grown (HS2.out).blk hg5 (fun e => ((HS2.out).ra.1 _ e.symm).1 rfl)); have k5 : w5.cell? ⟨w.heap.size, 0, none⟩ = some va := (blk_cell HBK.out 0).trans rfl; have f5 := blk_frozen HBK.out 0; (obtain ⟨A5, c5, e5⟩ := Kd.R_slice ho5); rw [HLI.out] at e5; subst e5; clear ho5 hb5 hg5 hat5)
          go_roundg (al.length - (i + 1))
          case measure => have := HLT.out; omega
          case rel => exact ⟨i + 1, _, HLT.out, Nat.le_refl _, by rw [HKZ.out], ⟨by rw [HTK.out, ← HMM.out]; exact HS5.out⟩⟩
    · obtain rfl : i = al.length := by omega
      rw [List.take_length] at HS1
      have hra := (HS1.out).ra
      obtain ⟨A5, c5, e5⟩ := Kd.R_slice hra
      rw [ofN_len] at e5
      subst e5
      have HAM := Aside0.mk (show ∀ l ∈ al.map maskN, l < 16777216 from fun m hm => by
        obtain ⟨l, hl, rfl⟩ := List.mem_map.1 hm
        exact maskN_lt (HX.out l hl).2)
      have HHT := Aside0.mk (show Calls Tryz.prog 96 #[.pointer (some ⟨w.heap.size, 0, none⟩), .int .i64 0, .int .i64 0] wr (HitE w wr.heap.size w.heap.size A5 c5 (al.map maskN) (.slice none 0 0) (hitsOf al) wr) from
        hit_calls w wr.heap.size w.heap.size A5 c5 (al.map maskN) HAM.out 25 0 0 (.slice none 0 0) [] wr (by decide) (by decide) (by omega) (by decide) (HS1.out).hs)
      clear hra hi hgg hlt HS1 HR
      go_wp2_with fail
      refine (HHT.out).mono ?_
      rintro E W5 ⟨v5, rfl, HS5, HF5⟩
      have HSH := Aside0.mk HS5
      have HB5 := Aside0.mk HS5.below
      obtain ⟨A6, c6, e6⟩ := Kd.R_slice HS5.ro
      rw [ofN_len] at e6
      subst e6
      have hrd := Kd.R_reads' HS5.ro
      rw [ofN_len] at hrd
      have HRD := Aside0.mk hrd.2.2
      have k1 : W5.cell? ⟨w.heap.size, 1, none⟩ = some (.slice A6 ((hitsOf al).take 13).length c6) := (blk_cell HS5.blk 1).trans rfl
      have HT5 := Aside0.mk ((HT.out).below HS5.below)
      have HOKD := Aside0.mk (show dualOk al = decide ((hitsOf al).length ≤ 12) from rfl)
      rw [← HOKD.out]
      have HDD := Aside0.mk (show dualD al = sortL (((hitsOf al).take 13).map unN) from rfl)
      have HOL := Aside0.mk (show ((hitsOf al).take 13).length ≤ 13 from List.length_take_le _ _)
      have HOM := Aside0.mk (show ∀ m ∈ (hitsOf al).take 13, m < 16777216 from fun m hm => hits_lt HAM.out m (List.mem_of_mem_take hm))
      generalize (hitsOf al).take 13 = outs at *
      clear HS5 HF5 hrd HHT HSH HAM
      have HBW := Aside0.mk (Below.refl W5.heap.size W5)
      go_wp2
      clear k1
      go_loopg [59, 11] outs.length (fun gg v59 v11 wi => ∃ i : Nat, i ≤ outs.length ∧ outs.length - i ≤ gg ∧ v59 = .int .i64 i ∧ Aside0 (Below W5.heap.size W5 wi) ∧ Aside0 (kA1.R 69 wi W5.heap.size (fun k => W5.heap.size ≤ k) v11 ((outs.take i).map unN)))
      case atStart => exact ⟨0, Nat.zero_le _, Nat.le_refl _, rfl, HBW, ⟨Kd.R_nil _ _ _ _ _⟩⟩
      case round =>
        clear HBW
        obtain ⟨i, hi, hgg, rfl, HBW, HRO⟩ := hrel
        generalize wr = WR at *
        by_cases hlt : i < outs.length
        · have hltz : (i : Int) < (outs.length : Int) := by omega
          have HLT := Aside0.mk hlt
          obtain ⟨ad, e, hk⟩ := Kd.at_int HRD.out (i : Int) (by omega) (by omega)
          subst e
          rw [show rd (ofN outs) (i : Int) = ((outs.getD i 0 : Nat) : Int) by simp [rd, ofN, List.getD_eq_getElem?_getD, List.getElem?_eq_getElem hlt], Int.toNat_natCast] at hk
          have hk2 := pw_cell_below (HBW.out) hk
          have HMM := Aside0.mk (HOM.out _ (getD_memY 0 hlt))
          have HTK := Aside0.mk (show (outs.take (i + 1)).map unN = (outs.take i).map unN ++ [unN (outs.getD i 0)] by
            rw [List.take_add_one, List.map_append, List.getD_eq_getElem?_getD, List.getElem?_eq_getElem hlt]; rfl)
          have HKZ := Aside0.mk (show wrap64 ((i : Int) + 1) = ((i + 1 : Nat) : Int) by rw [wr_id (by omega) (by have := HOL.out; omega)]; rfl)
          clear hk hlt hi
          generalize outs.getD i 0 = m at *
          have HLW := Aside0.mk (listW_calls m HMM.out WR ((HT5.out).below HBW.out))
          go_wp2_with fail
          refine (HLW.out).mono ?_
          rintro E W6 ⟨A7, c7, rfl, hc7, hC7, hb7⟩
          have HC7 := Aside0.mk hC7
          have HB7 := Aside0.mk hb7
          have HBL := Aside0.mk (bitsI_len m)
          have HEQ := Aside0.mk (show bitsI m = ofN (bitsN m) from rfl)
          clear hk2 hltz hc7 hC7 hb7 HLW
          have HEL := Aside0.mk (show (bitsI m).length = (bitsN m).length from by rw [HEQ.out, ofN_len])
          go_wp2
          go_loopg [66, 14] (bitsI m).length (fun gg v66 v14 wi => ∃ j : Nat, j ≤ (bitsI m).length ∧ (bitsI m).length - j ≤ gg ∧ v66 = .int .i64 j ∧ Aside0 (Below WR.heap.size WR wi) ∧ Aside0 (Below W6.heap.size W6 wi) ∧ Aside0 (Kd.R Q.k83 83 wi WR.heap.size (fun k => W6.heap.size ≤ k) v14 (((bitsN m).take j).map needI)))
          case atStart => exact ⟨0, Nat.zero_le _, Nat.le_refl _, rfl, HB7, ⟨Below.refl _ _⟩, ⟨Kd.R_nil _ _ _ _ _⟩⟩
          case round =>
            obtain ⟨j, hj, hgg, rfl, HBR, HB6, HRL⟩ := hrel
            by_cases hlt : j < (bitsI m).length
            · have hltz : (j : Int) < ((bitsI m).length : Int) := by omega
              have HLJ := Aside0.mk hlt
              obtain ⟨ad2, e, hk⟩ := Kd.at_int HC7.out (j : Int) (by omega) (by omega)
              subst e
              have hlt2 : j < (bitsN m).length := by have := HEL.out; omega
              rw [show rd (bitsI m) (j : Int) = (((bitsN m).getD j 0 : Nat) : Int) by rw [HEQ.out]; simp [rd, ofN, List.getD_eq_getElem?_getD, List.getElem?_eq_getElem hlt2], Int.toNat_natCast] at hk
              have hk2 := pw_cell_below (HB6.out) hk
              have HBI := Aside0.mk (bits_lt hlt2)
              have HTJ := Aside0.mk (show ((bitsN m).take (j + 1)).map needI = ((bitsN m).take j).map needI ++ [needI ((bitsN m).getD j 0)] by
                rw [List.take_add_one, List.map_append, List.getD_eq_getElem?_getD, List.getElem?_eq_getElem hlt2]; rfl)
              have HLL := Aside0.mk (show (((bitsN m).take j).map needI).length ≤ 24 by rw [List.length_map, List.length_take]; have := bitsN_len m; omega)
              have HKJ := Aside0.mk (show wrap64 ((j : Int) + 1) = ((j + 1 : Nat) : Int) by rw [wr_id (by omega) (by have := HBL.out; omega)]; rfl)
              have HSZ := Aside0.mk (show WR.heap.size ≤ W6.heap.size from (HB7.out).size)
              clear hk hlt hlt2 hj
              generalize (bitsN m).getD j 0 = i2 at *
              have hi2 := HBI.out
              have HLN := Aside0.mk (show (((bitsN m).take j).map needI).length = j by rw [List.length_map, List.length_take]; have := HLJ.out; have := HEL.out; omega)
              obtain ⟨A8, c8, e8⟩ := Kd.R_slice HRL.out
              rw [HLN.out] at e8
              subst e8
              have HNI := Aside0.mk (show (⟨(i2 : Int) / 6, (i2 : Int) % 6⟩ : Nd) = needI i2 from rfl)
              have HLN2 := Aside0.mk (show (((bitsN m).take (j + 1)).map needI).length = j + 1 by rw [HTJ.out, List.length_append, HLN.out]; rfl)
              go_wp2_with ((with_reducible refine gate_builtin (b := .append) (xs := #[.tmp 70, .tmp 76]) rfl ?_); at_builtin; refine Kd.R_append Q.k83 (w0 := WR) WR.heap.size rfl (.tmp 70) (.tmp 76) 69 83 (.agg #[.int .i64 0, .int .i64 0]) 16 rfl Tryz.underlying69 Q.info83 rfl (by decide) (by decide) (.slice A8 j c8) (((bitsN m).take j).map needI) ⟨(i2 : Int) / 6, (i2 : Int) % 6⟩ [.int .i64 ((i2 : Int) / 6), .int .i64 ((i2 : Int) % 6)] (fun k => W6.heap.size ≤ k) (fun _ => False) rfl rfl (Q.k83_mkM _ _ _ ⟨(i2 : Int) / 6, (i2 : Int) % 6⟩) (fun _ hk => hk.elim) (fun k hk => Nat.le_trans (HB6.out).size hk) HRL.out HBR.out (HBR.out).size (by have := HLL.out; omega) ?_; intro v7 w7 ho7 hb7 hg7 hat7; have HB8 := Aside0.mk (pw_below_grown HB6.out _ (HB6.out).size hg7 (fun k hk => (HRL.out).1 k hk)); rw [HNI.out, ← HTJ.out] at ho7; have HR7 := Aside0.mk ho7; have HBR7 := Aside0.mk hb7; (obtain ⟨A9, c9, e9⟩ := Kd.R_slice ho7); rw [HLN2.out] at e9; subst e9; clear ho7 hb7 hg7 hat7)
              go_roundg ((bitsI m).length - (j + 1))
              case measure => have := HLJ.out; omega
              case rel => exact ⟨j + 1, HLJ.out, Nat.le_refl _, by rw [HKJ.out], HBR7, HB8, HR7⟩
            · obtain rfl : j = (bitsI m).length := by omega
              have HUN := Aside0.mk (show ((bitsN m).take (bitsI m).length).map needI = unN m by rw [HEL.out, List.take_length]; rfl)
              rw [HUN.out] at HRL
              obtain ⟨A8, c8, e8⟩ := Kd.R_slice HRL.out
              subst e8
              have HRO2 := Aside0.mk (Kd.R_below HRO.out HBR.out)
              have HBW2 := Aside0.mk (below_then HBW.out (HBW.out).size HBR.out)
              have HRL2 := Aside0.mk (Kd.R_lower HRL.out (HBW.out).size)
              have HOWN := Aside0.mk (show ∀ k, u11.ownBlock = some k → k < W6.heap.size from fun k hk => Nat.lt_of_lt_of_le (ownBlock_typed HRO.out hk).2 (HB7.out).size)
              have HLO := Aside0.mk (show ((outs.take i).map unN).length ≤ 13 by rw [List.length_map, List.length_take]; have := HOL.out; omega)
              clear HBR HRL HRO hj hgg hlt
              go_wp2_with ((with_reducible refine gate_builtin (b := .append) (xs := #[.tmp 79, .tmp 81]) rfl ?_); at_builtin; refine Kd.R_append kA1 (w0 := W5) W5.heap.size rfl (.tmp 79) (.tmp 81) 66 69 (.slice none 0 0) 24 rfl Tryz.underlying66 Q.info69 rfl (show 0 < 1 by decide) (by decide) u11 ((outs.take i).map unN) (unN m) [.slice A8 (unN m).length c8] (fun k => W5.heap.size ≤ k) (fun k => W6.heap.size ≤ k) rfl rfl ⟨_, rfl, HRL2.out⟩ (fun k hk => ⟨by have h1 := (HBW.out).size; have h2 := (HB7.out).size; have h3 : W6.heap.size ≤ k := hk; show W5.heap.size ≤ k; omega, fun e => by have h1 := HOWN.out k e.symm; have h3 : W6.heap.size ≤ k := hk; omega⟩) (fun k hk => by have h1 := (HBW2.out).size; have h3 : wr.heap.size ≤ k := hk; show W5.heap.size ≤ k; omega) HRO2.out HBW2.out (HBW2.out).size (by have := HLO.out; omega) ?_; intro v7 w7 ho7 hb7 hg7 hat7; rw [← HTK.out] at ho7; have HR7 := Aside0.mk ho7; have HBW7 := Aside0.mk hb7; clear ho7 hb7 hg7 hat7)
              go_roundg (outs.length - (i + 1))
              case measure => have := HLT.out; omega
              case rel => exact ⟨i + 1, HLT.out, Nat.le_refl _, by rw [HKZ.out], HBW7, HR7⟩
        · obtain rfl : i = outs.length := by omega
          rw [List.take_length] at HRO
          have HSRT := Aside0.mk (sortG_calls W5.heap.size (fun k => W5.heap.size ≤ k) u11 (outs.map unN) WR HRO.out (fun l hl => by
            obtain ⟨m, hm, rfl⟩ := List.mem_map.1 hl
            exact ⟨(unN_small m).1, fun x hx => ((unN_small m).2 x hx).small⟩) (by rw [List.length_map]; have := HOL.out; omega))
          have HOWN := Aside0.mk (show ∀ k, u11.ownBlock = some k → W5.heap.size ≤ k from (HRO.out).1)
          clear hi hgg hlt HRO
          go_wp2_with fail
          refine (HSRT.out).mono ?_
          rintro E W6 ⟨rfl, hR, hg⟩
          have HR6 := Aside0.mk (Kd.R_mono (Kd.R_lower hR (HB5.out).size) (fun k hk => Nat.le_trans (HB5.out).size hk))
          have HB6 := Aside0.mk (below_then HB5.out (HB5.out).size (pw_below_grown HBW.out _ (HBW.out).size hg (fun k hk => HOWN.out k hk)))
          clear hR hg
          go_wp2
          go_ret2
          exact ⟨u11, rfl, by rw [HDD.out]; exact HR6.out, HB6.out⟩
end Go.Proofs.YtbmcigakiibncaaGreatDoor.H
namespace Go.Proofs.YtbmcigakiibncaaGreatDoor.H
open Go.RowKit Go.Proofs.YtbmcigakiibncaaGreatDoorW.PrintWords Go.Proofs.YtbmcigakiibncaaGreatDoorW.PrintLast Go.Proofs.YtbmcigakiibncaaGreatDoorW.PrintMore
set_option linter.unusedVariables false
set_option linter.unusedSimpArgs false
def tabT21 : Bool × List (List Nat × List Nat) := (true, [([], []), ([0], [0]), ([1], [1]), ([], []), ([3], [3]), ([2, 4], [2, 4]), ([], []), ([6, 5, 2, 0, 1, 2, 3, 4, 5, 6], [5, 6])])
theorem tab21 : rtab .any (opsOf Tryz.f21 4) = tabT21 := by kernel_rfl
theorem bits21 : waitsOk tabT21.2 [0, 1, 3, 0, 8, 31, 0, 127] = true := by kernel_rfl
theorem clone_calls (A : Option Addr) (c : Nat) (rk : List Int) (w : World) (hr : Kd.C (Kd.int .i64) w A rk.length rk) (hn : rk.length ≤ 24) :
    Calls Tryz.prog 49 #[.slice A rk.length c] w fun e w' => ∃ v', e = .returned v' ∧ Kd.R (Kd.int .i64) 3 w' w.heap.size (fun k => w.heap.size ≤ k) v' rk ∧ Below w.heap.size w w' := by
  have key : ∀ (v : Value) (w' : World), w'.ownsRow w.heap.size 3 1 v rk.length (rk.map (Value.int .i64)) → Kd.R (Kd.int .i64) 3 w' w.heap.size (fun k => w.heap.size ≤ k) v rk := fun v w' h =>
    Kd.R_of_own h (fun k hk => (h.lt k hk).1)
  cases A with
  | none =>
    refine (Tryz.slices_Clone_int_nil rk.length c w).mono ?_
    rintro e w' ⟨rfl, rfl⟩
    have h0 : rk = [] := by
      cases rk with
      | nil => rfl
      | cons a r => obtain ⟨ad, e, _⟩ := Kd.at_int hr 0 (by omega) (by simp); cases e
    subst h0
    exact ⟨_, rfl, Kd.R_nil _ _ _ _ _, Below.refl _ _⟩
  | some ad =>
    by_cases h0 : rk.length = 0
    · obtain rfl : rk = [] := List.length_eq_zero_iff.1 h0
      refine (Any.slices_Clone_int_zero Tryz.laysNm215 ad c w).mono ?_
      rintro e w' ⟨v', rfl, ho, _, hb⟩
      exact ⟨v', rfl, key v' w' ho, hb⟩
    · have hcell : ∀ j, j < rk.length → w.cell? (ad.add j) = some (.int .i64 (rk.getD j 0)) := by
        intro j hj
        obtain ⟨ad2, e, hk⟩ := Kd.at_int hr (j : Int) (by omega) (by omega)
        injection e with e
        subst e
        rw [Int.toNat_natCast] at hk
        rw [hk]
        simp [rd]
      have hsp : ad.spot = none := by
        have h1 := hcell 0 (by omega)
        rw [show ad.add 0 = ad by unfold Addr.add; simp] at h1
        unfold World.cell? at h1
        split at h1
        · split at h1
          · cases h1
          · rename_i hn; simpa using hn
        · cases h1
      obtain ⟨b, off, sp⟩ := ad
      obtain rfl : sp = none := hsp
      refine (Tryz.slices_Clone_int b off rk.length c rk w (Nat.le_refl _) (by omega) (fun j hj => by
        have := hcell j hj
        rwa [show (Addr.add ⟨b, off, none⟩ j) = ⟨b, off + j, none⟩ by unfold Addr.add; split <;> simp_all] at this)).mono ?_
      rintro e w' ⟨v', rfl, ho, _, hb⟩
      rw [List.take_length] at ho
      exact ⟨v', rfl, key v' w' ho, hb⟩
structure DW (w W : World) (a0 a1 a2 r0 r1 r2 : Value) : Prop where
  hb : Below w.heap.size w W
  h1 : W.heap[w.heap.size]? = some (.cells #[a0, a1, a2] 25 (0, 0))
  h2 : W.heap[w.heap.size + 1]? = some (.cells #[r0, r1, r2] 25 (0, 0))
theorem DW.start (w : World) (a0 a1 a2 : Value) : DW w ((w.alloc (.cells #[a0, a1, a2] 25)).alloc (.cells #[.slice none 0 0, .int .i64 0, .slice none 0 0] 25)) a0 a1 a2 (.slice none 0 0) (.int .i64 0) (.slice none 0 0) :=
  ⟨below_alloc (below_alloc (Below.refl _ _) _) _, blk_alloc (blk_new w _) _, blk_at2 w _ _⟩
theorem DW.below {w W W1 : World} {a0 a1 a2 r0 r1 r2 : Value} (h : DW w W a0 a1 a2 r0 r1 r2) (hb : Below W.heap.size W W1) : DW w W1 a0 a1 a2 r0 r1 r2 := ⟨below_then h.hb h.hb.size hb, blk_below h.h1 hb, blk_below h.h2 hb⟩
theorem DW.cells {w W : World} {a0 a1 a2 r0 r1 r2 : Value} (h : DW w W a0 a1 a2 r0 r1 r2) : W.cell? ⟨w.heap.size, 0, none⟩ = some a0 ∧ W.cell? ⟨w.heap.size, 1, none⟩ = some a1 ∧ W.cell? ⟨w.heap.size, 2, none⟩ = some a2 :=
  ⟨(blk_cell h.h1 0).trans rfl, (blk_cell h.h1 1).trans rfl, (blk_cell h.h1 2).trans rfl⟩
theorem DW.rcells {w W : World} {a0 a1 a2 r0 r1 r2 : Value} (h : DW w W a0 a1 a2 r0 r1 r2) : (W.cell? ⟨w.heap.size + 1, 0, none⟩ = some r0 ∧ W.cell? ⟨w.heap.size + 1, 1, none⟩ = some r1 ∧ W.cell? ⟨w.heap.size + 1, 2, none⟩ = some r2) ∧ W.frozen? ⟨w.heap.size + 1, 0, none⟩ = false ∧ W.frozen? ⟨w.heap.size + 1, 1, none⟩ = false ∧ W.frozen? ⟨w.heap.size + 1, 2, none⟩ = false :=
  ⟨⟨(blk_cell h.h2 0).trans rfl, (blk_cell h.h2 1).trans rfl, (blk_cell h.h2 2).trans rfl⟩, blk_frozen h.h2 0, blk_frozen h.h2 1, blk_frozen h.h2 2⟩
theorem DW.far {w W : World} {a0 a1 a2 r0 r1 r2 : Value} (h : DW w W a0 a1 a2 r0 r1 r2) {a j : Nat} (ha : w.heap.size + 2 ≤ a) (u : Value) : DW w (W.setCell ⟨a, j, none⟩ u) a0 a1 a2 r0 r1 r2 :=
  ⟨h.hb.setCell (p := ⟨a, j, none⟩) (by show w.heap.size ≤ a; omega) _, blk_far h.h1 (by show w.heap.size ≠ a; omega) _, blk_far h.h2 (by show w.heap.size + 1 ≠ a; omega) _⟩
theorem DW.grown {w W W1 : World} {a0 a1 a2 r0 r1 r2 : Value} (h : DW w W a0 a1 a2 r0 r1 r2) {row : Option Nat} (hb : Below w.heap.size w W1) (hg : W.grownBy W1 row) (hne : ∀ k, row = some k → w.heap.size + 2 ≤ k) : DW w W1 a0 a1 a2 r0 r1 r2 :=
  ⟨hb, blk_grown h.h1 hg (fun e => by have := hne _ e.symm; omega), blk_grown h.h2 hg (fun e => by have := hne _ e.symm; omega)⟩
def put3 (W : World) (g : Nat) (x y z : Value) : World := ((W.setCell ⟨g, 0, none⟩ x).setCell ⟨g, 1, none⟩ y).setCell ⟨g, 2, none⟩ z
theorem DW.put {w W : World} {a0 a1 a2 r0 r1 r2 : Value} (h : DW w W a0 a1 a2 r0 r1 r2) (x y z : Value) : DW w (put3 W (w.heap.size + 1) x y z) a0 a1 a2 x y z :=
  ⟨((h.hb.setCell (p := ⟨w.heap.size + 1, 0, none⟩) (Nat.le_succ _) _).setCell (p := ⟨w.heap.size + 1, 1, none⟩) (Nat.le_succ _) _).setCell (p := ⟨w.heap.size + 1, 2, none⟩) (Nat.le_succ _) _,
    blk_far (blk_far (blk_far h.h1 (by show w.heap.size ≠ w.heap.size + 1; omega) _) (by show w.heap.size ≠ w.heap.size + 1; omega) _) (by show w.heap.size ≠ w.heap.size + 1; omega) _,
    blk_set (blk_set (blk_set h.h2 0 x) 1 y) 2 z⟩
theorem put3_heap (W : World) (g : Nat) (x y z : Value) (k : Nat) (h : k ≠ g) : (put3 W g x y z).heap[k]? = W.heap[k]? := by
  unfold put3
  rw [Below.heap_setCell _ _ _ _ h, Below.heap_setCell _ _ _ _ h, Below.heap_setCell _ _ _ _ h]
def DualJ (w : World) (A1 : Option Addr) (c1 : Nat) (A2 : Option Addr) (c2 : Nat) (rk : List Int) (st : Int) (n : Nat) (s : Option Addr × Nat × Nat) (W : World) : Prop :=
  DW w W (.slice A1 rk.length c1) (.int .i64 st) (.slice A2 n c2) (.slice none 0 0) (.int .i64 0) (.slice none 0 0) ∧ Kd.R (Kd.int .i64) 3 W w.heap.size (fun k => w.heap.size + 2 ≤ k) (.slice s.1 rk.length s.2.1) rk ∧
    W.heap[s.2.2]? = some (.cells #[.slice none 0 0, .int .i64 0, .slice none 0 0] 25 (0, 0)) ∧ w.heap.size + 1 < s.2.2 ∧ (Value.slice s.1 rk.length s.2.1).ownBlock ≠ some s.2.2
def rowD (row : List (List (List Nd))) : List (List (List Nd)) := row.map dualD
def mvOkD (M : Mv) : Bool := M.all fun row => row.all dualOk
def dualR (rk : List Int) (st : Int) (M : Mv) : Int × List Int × Int × Mv := if auB rk st M then (if mvOkD M then (0, rk, st, M.map rowD) else (3, [], 0, [])) else (10, [], 0, [])
def DualRE (d : Int × List Int × Int × Mv) (w : World) (E : Ending) (w' : World) : Prop :=
  ∃ v1 v2, E = .returned (.tuple #[.agg #[v1, .int .i64 d.2.2.1, v2], .int .i64 d.1]) ∧ Kd.R (Kd.int .i64) 3 w' w.heap.size (fun k => w.heap.size ≤ k) v1 d.2.1 ∧ kA3.R 65 w' w.heap.size (fun k => w.heap.size ≤ k) v2 d.2.2.2 ∧ Below w.heap.size w w'
theorem results_row_tmp {P : Program} {fn : Func} {p u : Tmp} {ty : TypeId} (h : fn.results = #[.cell p ty, .tmp u]) (tmps : Array Value) (w : World) (g : Nat) (t : TypeId) (cs : Array Value) (fr : Nat × Nat) (d : TypeDesc)
    (hp : tmps.getD p undef = .pointer (some ⟨g, 0, none⟩)) (hg : w.heap[g]? = some (.cells cs t fr))
    (hu : P.underlying ty = some d) (hd : (match d with | .struct _ | .array _ _ => true | _ => false) = true) (hi : (P.info? ty).map (·.size) = some cs.size) :
    (results fn tmps).run P w = .ok (.tuple #[.agg cs, tmps.getD u undef]) w := by
  rw [results_cell_tmp h, hp]
  simp only [asAddr, Sem.run_pure, Result.andThen_ok, run_loadVar_row w g t ty cs fr d hg hu hd hi]
theorem inN_of {rk : List Int} {st : Int} {M : Mv} (h : AuOk rk st M) {row : List (List (List Nd))} (hr : row ∈ M) {a : List (List Nd)} (ha : a ∈ row) : a.length ≤ 12 ∧ ∀ l ∈ a, l.length ≤ 24 ∧ ∀ x ∈ l, InN x :=
  ⟨h.alts row hr a ha, fun l hl => ⟨h.lens row hr a ha l hl, fun x hx => h.nds row hr a ha l hl x hx⟩⟩
structure DO (w : World) (b5 : Nat) (a0 a1 a2 : Value) (rk : List Int) (st : Int) (vr vm : Value) (S : Nat → Prop) (Ms : Mv) (W : World) : Prop where
  dw : DW w W a0 a1 a2 (.slice none 0 0) (.int .i64 0) (.slice none 0 0)
  bx : W.heap[b5]? = some (.cells #[vr, .int .i64 st, vm] 25 (0, 0))
  hbl : w.heap.size + 1 < b5
  rr : Kd.R (Kd.int .i64) 3 W w.heap.size (fun k => w.heap.size + 2 ≤ k) vr rk
  hne : vr.ownBlock ≠ some b5
  hS : ∀ k, S k → b5 < k
  rm : kA3.R 65 W w.heap.size S vm Ms
theorem DO.move {w : World} {b5 : Nat} {a0 a1 a2 : Value} {rk : List Int} {st : Int} {vr vm : Value} {S : Nat → Prop} {Ms : Mv} {W W1 : World} (h : DO w b5 a0 a1 a2 rk st vr vm S Ms W) (hb : Below W.heap.size W W1) : DO w b5 a0 a1 a2 rk st vr vm S Ms W1 :=
  ⟨h.dw.below hb, blk_below h.bx hb, h.hbl, Kd.R_below h.rr hb, h.hne, h.hS, Kd.R_below h.rm hb⟩
theorem DO.bound {w : World} {b5 : Nat} {a0 a1 a2 : Value} {rk : List Int} {st : Int} {vr vm : Value} {S : Nat → Prop} {Ms : Mv} {W : World} (h : DO w b5 a0 a1 a2 rk st vr vm S Ms W) : DO w b5 a0 a1 a2 rk st vr vm (fun k => b5 < k ∧ k < W.heap.size) Ms W :=
  ⟨h.dw, h.bx, h.hbl, h.rr, h.hne, fun k hk => hk.1, Kd.R_mono (Kd.R_bound h.rm) (fun k hk => ⟨h.hS k hk.1, hk.2.2.1⟩)⟩
theorem DO.mono {w : World} {b5 : Nat} {a0 a1 a2 : Value} {rk : List Int} {st : Int} {vr vm : Value} {S : Nat → Prop} {Ms : Mv} {W : World} (h : DO w b5 a0 a1 a2 rk st vr vm S Ms W) : DO w b5 a0 a1 a2 rk st vr vm (fun k => b5 < k) Ms W :=
  ⟨h.dw, h.bx, h.hbl, h.rr, h.hne, fun k hk => hk, Kd.R_mono h.rm h.hS⟩
theorem DO.far {w : World} {b5 : Nat} {a0 a1 a2 : Value} {rk : List Int} {st : Int} {vr vm : Value} {S : Nat → Prop} {Ms : Mv} {W : World} (h : DO w b5 a0 a1 a2 rk st vr vm S Ms W) {g j : Nat} {cs : Array Value} (hg : W.heap[g]? = some (.cells cs 66 (0, 0))) (hb : b5 < g) (hS : ∀ k, S k → k ≠ g) (u : Value) :
    DO w b5 a0 a1 a2 rk st vr vm S Ms (W.setCell ⟨g, j, none⟩ u) :=
  ⟨h.dw.far (by have := h.hbl; omega) u, blk_far h.bx (by show b5 ≠ g; omega) u, h.hbl, R_other h.rr g (fun e => by obtain ⟨⟨c, hc⟩, _⟩ := ownBlock_typed h.rr e; exact types_ne hc hg (by decide) rfl) (fun _ h => by cases h) (fun k hk _ => Below.heap_setCell _ _ _ k hk), h.hne, h.hS,
    Kd.R_far h.rm (p := ⟨g, j, none⟩) (fun k hk he => hS k hk he) u⟩
theorem DO.put {w : World} {b5 : Nat} {a0 a1 a2 : Value} {rk : List Int} {st : Int} {vr vm v1 : Value} {Ms : Mv} {W W1 : World} (h : DO w b5 a0 a1 a2 rk st vr vm (fun k => b5 < k) Ms W) (row : List (List (List Nd)))
    (hr : kA3.R 65 W1 w.heap.size (fun k => b5 < k) v1 (Ms ++ [row])) (hb1 : Below w.heap.size w W1) (hg : W.grownBy W1 vm.ownBlock) : DO w b5 a0 a1 a2 rk st vr v1 (fun k => b5 < k) (Ms ++ [row]) (W1.setCell ⟨b5, 2, none⟩ v1) := by
  have hbx := blk_grown h.bx hg (fun e => by have := h.rm.1 _ e.symm; omega)
  have hrr := R_grown9 h.rr h.rm (by decide) (fun _ h => by cases h) hg
  exact ⟨(h.dw.grown hb1 hg (fun k hk => by have h1 := h.rm.1 k hk; have h2 : b5 < k := h1; have := h.hbl; omega)).far (by have := h.hbl; omega) v1, blk_set hbx 2 v1, h.hbl,
    R_other hrr b5 h.hne (fun _ h => by cases h) (fun k hk _ => Below.heap_setCell _ _ _ k hk), h.hne, fun k hk => hk, Kd.R_far hr (p := ⟨b5, 2, none⟩) (fun k hk he => by have h1 : b5 < k := hk; have h2 : k = b5 := he; omega) v1⟩
theorem R_rep (W : World) (base n : Nat) (hb : base ≤ W.heap.size) (hn : n ≤ maxLen) : kA2.R 66 (W.alloc (.cells (madeCells #[.slice none 0 0] n) 66)) base (fun k => W.heap.size ≤ k) (.slice (some ⟨W.heap.size, 0, none⟩) n n) (List.replicate n []) := by
  have hsz : kA2.sz = 1 := rfl
  rw [made_rep]
  refine ⟨fun k hk => ?_, List.replicate n (.slice none 0 0), ⟨by simp [hsz], .inr ⟨W.heap.size, n, _, by rw [List.length_replicate], hb, blk_new W _, by simp, hn, by simp [hsz], by simp [hsz]⟩⟩, by simp [hsz], fun j p hj => ?_⟩
  · have : W.heap.size = k := by simpa [Value.ownBlock] using hk
    omega
  · obtain ⟨hjl, hjp⟩ := List.getElem?_eq_some_iff.1 hj
    rw [List.length_replicate] at hjl
    refine ⟨.slice none 0 0, ?_, ?_⟩
    · rw [hsz, Nat.mul_one, List.drop_replicate]
      rw [show n - j = (n - j - 1) + 1 by omega]; rfl
    · rw [← hjp, List.getElem_replicate]
      exact Kd.R_nil _ _ _ _ _
theorem R_puts {α : Type} {d : Kd α} {e t base g n cap : Nat} {ok okp : Nat → Prop} {W : World} {xs : List (List α)} {v : Value} {x : List α} (h : (Kd.slice e d).R t W base ok (.slice (some ⟨g, 0, none⟩) n cap) xs) (i : Nat) (hi : i < n) (hv : d.R e W base okp v x) (hokp : ∀ k, okp k → ok k ∧ k ≠ g) :
    (Kd.slice e d).R t (W.setCell ⟨g, i, none⟩ v) base ok (.slice (some ⟨g, 0, none⟩) n cap) (xs.set i x) ∧ W.grownBy (W.setCell ⟨g, i, none⟩ v) (some g) := by
  obtain ⟨c, hcl, _, hcc, _⟩ := Kd.R_elem h [] (i : Int) (by omega) (by omega)
  have hs : (Kd.slice e d).sz = 1 := rfl
  have := Kd.R_seg h (i : Int) (by omega) (by omega) (c := c) (seg := [v]) (j := 0) hcl hcc (by rw [hs]; exact Nat.le_refl _) (x' := x) (okp := okp) (by
    rw [hs] at hcl
    rw [List.take_zero, List.nil_append, List.drop_eq_nil_of_le (by simp; omega), List.append_nil]
    exact ⟨v, rfl, hv⟩) hokp
  rw [hs, Int.toNat_natCast, Nat.mul_one, Nat.add_zero] at this
  exact this
theorem R_cell1 {α : Type} {d : Kd α} {e t base g n cap : Nat} {ok : Nat → Prop} {W : World} {xs : List (List α)} (h : (Kd.slice e d).R t W base ok (.slice (some ⟨g, 0, none⟩) n cap) xs) (i : Nat) (hi : i < n) : ∃ u, W.cell? ⟨g, i, none⟩ = some u ∧ W.frozen? ⟨g, i, none⟩ = false := by
  obtain ⟨c, hcl, hM, hcc, hf⟩ := Kd.R_elem h [] (i : Int) (by omega) (by omega)
  obtain ⟨u, rfl, hR⟩ := hM
  have hs : (Kd.slice e d).sz = 1 := rfl
  have h0 := hcc 0 u rfl
  have h1 := hf 0
  rw [hs, Int.toNat_natCast, Nat.mul_one, Nat.add_zero] at h0 h1
  exact ⟨u, h0, h1⟩
theorem set_row {α : Type} {n f : Nat} {r : List (List α)} (hr : r.length = f) (hf : f < n) (y : List α) : (r ++ List.replicate (n - f) []).set f y = (r ++ [y]) ++ List.replicate (n - (f + 1)) [] := by
  obtain ⟨m, hm⟩ : ∃ m, n - f = m + 1 := ⟨n - f - 1, by omega⟩
  rw [hm, List.set_append_right _ _ (by omega), List.replicate_succ, show f - r.length = 0 by omega, List.set_cons_zero, show n - (f + 1) = m by omega, List.append_assoc, List.singleton_append]
set_option maxHeartbeats 16000000 in
set_option maxRecDepth 100000 in
theorem adual_calls (rk : List Int) (M : Mv) (st : Int) (A1 : Option Addr) (c1 : Nat) (A2 : Option Addr) (c2 : Nat) (w : World)
    (hr : Kd.C (Kd.int .i64) w A1 rk.length rk) (hc1 : rk.length ≤ c1) (hM : Kd.C kA3 w A2 M.length M) (ht : TabD w) :
    Calls Tryz.prog 21 #[.agg #[.slice A1 rk.length c1, .int .i64 st, .slice A2 M.length c2]] w (DualRE (dualR rk st M) w) := by
  have HR := Aside0.mk hr
  have HM := Aside0.mk hM
  have HT := Aside0.mk ht
  have HD := Aside0.mk (DW.start w (.slice A1 rk.length c1) (.int .i64 st) (.slice A2 M.length c2))
  have HCK := Aside0.mk (acheckG_calls rk M st A1 c1 A2 c2 _ (Kd.C_below hr (HD.out).hb) hc1 (Kd.C_below hM (HD.out).hb))
  clear hr hc1 hM ht
  go_enter Tryz.func21, Tryz.ntmps21
  go_upto_region 1 with (fail)
  generalize ((w.alloc (.cells #[.slice A1 rk.length c1, .int .i64 st, .slice A2 M.length c2] 25)).alloc (.cells #[.slice none 0 0, .int .i64 0, .slice none 0 0] 25)) = W1 at *
  obtain ⟨k0, k1, k2⟩ := (HD.out).cells
  cases hau : auB rk st M with
  | false =>
    rw [chk_false hau] at HCK
    have HP := Aside0.mk (show dualR rk st M = (10, [], 0, []) by unfold dualR; rw [hau]; rfl)
    clear hau
    go_wp2_with fail
    refine (HCK.out).mono ?_
    rintro E W2 ⟨rfl, hb⟩
    have HD2 := Aside0.mk ((HD.out).below hb)
    clear hb k0 k1 k2
    obtain ⟨⟨k0, k1, k2⟩, f0, f1, f2⟩ := (HD2.out).rcells
    have HD3 := Aside0.mk ((HD2.out).put (.slice none 0 0) (.int .i64 0) (.slice none 0 0))
    unfold put3 at HD3
    go_wp2
    refine bodyPost_ret (results_row_tmp rfl _ _ (w.heap.size + 1) 25 #[.slice none 0 0, .int .i64 0, .slice none 0 0] (0, 0) _ rfl (HD3.out).h2 Tryz.underlying25 rfl (by kernel_rfl)) rfl ?_
    rw [HP.out]
    exact ⟨_, _, rfl, Kd.R_nil _ _ _ _ _, Kd.R_nil _ _ _ _ _, (HD3.out).hb⟩
  | true =>
  rw [chk_true hau] at HCK
  have HOK := Aside0.mk (auOk hau)
  have HPR := Aside0.mk (show dualR rk st M = if mvOkD M then (0, rk, st, M.map rowD) else (3, [], 0, []) by unfold dualR; rw [hau]; rfl)
  have HRL := Aside0.mk (show rk.length ≤ 24 from (HOK.out).nrk)
  clear hau
  go_wp2_with fail
  refine (HCK.out).mono ?_
  rintro E W2 ⟨rfl, hb⟩
  have HD2 := Aside0.mk ((HD.out).below hb)
  clear hb k0 k1 k2 HCK HD
  obtain ⟨k0, k1, k2⟩ := (HD2.out).cells
  have HD2d := Aside0.mk ((HD2.out).below (below_drew (Below.refl _ _)))
  have HHd := Aside0.mk (show w.heap.size + 2 ≤ W2.drew.heap.size from blk_lt (HD2d.out).h2)
  go_upto_region 4 with (fail)
  refine wp_region_noPanic ?_
  refine start_ (n := 8) (S := fun w' => w'.cell? ⟨w.heap.size, 0, none⟩ = some (.slice A1 rk.length c1) ∧ w'.cell? ⟨w.heap.size, 1, none⟩ = some (.int .i64 st)) (ds := [7]) #[false, false, false, false, false, false, false, false] (by kernel_rfl) rfl rfl ⟨pw_cell_below (below_drew (Below.refl _ _)) k0, pw_cell_below (below_drew (Below.refl _ _)) k1⟩ (fun hHeld => ?_)
  refine with_tabW tab21 bits21 (fun HT_ HW_ => ?_)
  clear k0 k1 k2
  generalize W2.drew = W3 at HD2d HHd hHeld ⊢
  refine take_ (i := 0) (N := some 19) (v := ?_) (a' := ?_) #[true, false, false, false, false, false, false, false] rfl rfl (take_ofW HT_.out HW_.out (by kernel_rfl)) (fun _ _ _ h => h) (Or.inl ⟨by rfl, ?_⟩) hHeld ?_ ?_
  rotate_left
  · rintro w' ⟨s0, s1⟩
    go_simp
    with_reducible rfl
  rotate_left
  · simp only [Act.put, List.setIfInBounds_toArray, List.set_cons_zero, List.set_cons_succ]
    rfl
  refine take_ (i := 1) (N := some 20) (v := ?_) (a' := ?_) #[true, true, false, false, false, false, false, false] rfl rfl (take_ofW HT_.out HW_.out (by kernel_rfl)) (fun _ _ _ h => h) (Or.inl ⟨by rfl, ?_⟩) hHeld ?_ ?_
  rotate_left
  · rintro w' ⟨s0, s1⟩
    go_simp
    with_reducible rfl
  rotate_left
  · simp only [Act.put, List.setIfInBounds_toArray, List.set_cons_zero, List.set_cons_succ]
    rfl
  refine take_ (i := 3) (N := some 22) (v := ?_) (a' := ?_) #[true, true, false, true, false, false, false, false] rfl rfl (take_ofW HT_.out HW_.out (by kernel_rfl)) (fun _ _ _ h => h) (Or.inl ⟨by rfl, ?_⟩) hHeld ?_ ?_
  rotate_left
  · rintro w' ⟨s0, s1⟩
    go_simp
    with_reducible rfl
  rotate_left
  · simp only [Act.put, List.setIfInBounds_toArray, List.set_cons_zero, List.set_cons_succ]
    rfl
  refine take_ (i := 4) (N := some 23) (v := ?_) (a' := ?_) #[true, true, false, true, true, false, false, false] rfl rfl (take_ofW HT_.out HW_.out (by kernel_rfl)) (fun _ _ _ h => h) (Or.inl ⟨by rfl, ?_⟩) hHeld ?_ ?_
  rotate_left
  · rintro w' ⟨s0, s1⟩
    go_simp
    with_reducible rfl
  rotate_left
  · simp only [Act.put, List.setIfInBounds_toArray, List.set_cons_zero, List.set_cons_succ]
    rfl
  refine join_ (σ := Option Addr × Nat × Nat) 1 #[true, true, true, true, true, true, true, false] (fun s => [(21, .slice s.1 rk.length s.2.1), (24, (.agg #[.slice s.1 rk.length s.2.1, .int .i64 st, .slice none 0 0])), (5, .pointer (some ⟨s.2.2, 0, none⟩))]) (DualJ w A1 c1 A2 c2 rk st M.length) ?cont (fun hcont => ?orders)
  case orders =>
    refine two_ (i := 2) (j := 6) (Ni := some 21) (Nj := some 5) #[true, true, true, true, true, false, false, false] #[true, true, false, true, true, false, true, false] rfl rfl rfl rfl (two_of HT_.out (by kernel_rfl)) (by decide) (by decide) (fun K hK => ?_) (fun K hK => ?_)
    · refine goes_ (f := 49) Tryz.func49 (by kernel_rfl) rfl #[.slice A1 rk.length c1] (by rfl) rfl rfl (by (try simp only [List.map_toArray, List.map_cons, List.map_nil]); rfl) ?_
      refine (clone_calls A1 c1 rk _ (Kd.C_below HR.out (HD2d.out).hb) HRL.out).mono ?_
      rintro E W4 ⟨v9, rfl, hR9, hb9⟩
      obtain ⟨A9, c9, e9⟩ := Kd.R_slice hR9
      subst e9
      have HD9 := Aside0.mk ((HD2d.out).below hb9)
      have HR9 := Aside0.mk (show Kd.R (Kd.int .i64) 3 _ w.heap.size (fun k => w.heap.size + 2 ≤ k) (.slice A9 rk.length c9) rk from Kd.R_lower (Kd.R_mono hR9 (fun k hk => Nat.le_trans (HHd.out) hk)) (by have := HHd.out; omega))
      refine ⟨_, rfl, ?_⟩
      refine hK.out _ _ ⟨(HD9.out).cells.1, (HD9.out).cells.2.1⟩ (fun hHeld => ?_)
      clear hK K
      refine norm_ (a' := ?_) ?_ ?_
      rotate_left
      · show Act.put _ (some 21) _ = _
        simp only [Act.put, List.setIfInBounds_toArray, List.set_cons_zero, List.set_cons_succ]
        rfl
      refine take_ (i := 5) (N := some 24) (v := ?_) (a' := ?_) #[true, true, true, true, true, true, false, false] rfl rfl (take_ofW HT_.out HW_.out (by kernel_rfl)) (fun _ _ _ h => h) (Or.inl ⟨by rfl, ?_⟩) hHeld ?_ ?_
      rotate_left
      · rintro w' ⟨s0, s1⟩
        go_simp
        with_reducible rfl
      rotate_left
      · simp only [Act.put, List.setIfInBounds_toArray, List.set_cons_zero, List.set_cons_succ]
        rfl
      refine one_ (i := 6) (N := some 5) #[true, true, true, true, true, true, true, false] rfl rfl (one_of HT_.out (by kernel_rfl)) (by decide) (fun K hK => ?_)
      refine box_step (by rfl) (N := 5) ?hd (cs := #[.slice none 0 0, .int .i64 0, .slice none 0 0]) (t := 25) ?hr ?_
      (case hd => rfl)
      (case hr => first | (go_simp; done) | (go_simp; rfl))
      intro b5 hg W5 hbox hb5
      have HBL := Aside0.mk (show w.heap.size + 1 < b5 by rw [hg]; exact blk_lt (HD9.out).h2)
      have HBX := Aside0.mk hbox
      have HD5 := Aside0.mk ((HD9.out).below hb5)
      have HR5 := Aside0.mk (Kd.R_below HR9.out hb5)
      have HNE := Aside0.mk (show (Value.slice A9 rk.length c9).ownBlock ≠ some b5 from fun e => by have := (ownBlock_typed HR9.out e).2; omega)
      refine hK.out _ _ ⟨(HD5.out).cells.1, (HD5.out).cells.2.1⟩ (fun hHeld => ?_)
      clear hK K
      refine norm_ (a' := ?_) ?_ ?_
      rotate_left
      · show Act.put _ (some 5) _ = _
        simp only [Act.put, List.setIfInBounds_toArray, List.set_cons_zero, List.set_cons_succ]
        rfl
      exact norm_ (by simp only [putAll, Act.put, List.setIfInBounds_toArray, List.set_cons_zero, List.set_cons_succ]) (hcont (A9, c9, b5) _ ⟨HD5.out, HR5.out, HBX.out, HBL.out, HNE.out⟩)
    · refine box_step (by rfl) (N := 5) ?hd (cs := #[.slice none 0 0, .int .i64 0, .slice none 0 0]) (t := 25) ?hr ?_
      (case hd => rfl)
      (case hr => first | (go_simp; done) | (go_simp; rfl))
      intro b5 hg W5 hbox hb5
      have HBL := Aside0.mk (show w.heap.size + 1 < b5 by rw [hg]; exact blk_lt (HD2d.out).h2)
      have HBX := Aside0.mk hbox
      have HD5 := Aside0.mk ((HD2d.out).below hb5)
      refine hK.out _ _ ⟨(HD5.out).cells.1, (HD5.out).cells.2.1⟩ (fun hHeld => ?_)
      clear hK K
      refine norm_ (a' := ?_) ?_ ?_
      rotate_left
      · show Act.put _ (some 5) _ = _
        simp only [Act.put, List.setIfInBounds_toArray, List.set_cons_zero, List.set_cons_succ]
        rfl
      have HHe := Aside0.mk (show w.heap.size + 2 ≤ W5.heap.size from by have := HHd.out; have := hb5.size; omega)
      refine one_ (i := 2) (N := some 21) #[true, true, true, true, true, false, true, false] rfl rfl (one_of HT_.out (by kernel_rfl)) (by decide) (fun K hK => ?_)
      refine goes_ (f := 49) Tryz.func49 (by kernel_rfl) rfl #[.slice A1 rk.length c1] (by rfl) rfl rfl (by (try simp only [List.map_toArray, List.map_cons, List.map_nil]); rfl) ?_
      refine (clone_calls A1 c1 rk _ (Kd.C_below HR.out (HD5.out).hb) HRL.out).mono ?_
      rintro E W6 ⟨v9, rfl, hR9, hb9⟩
      obtain ⟨A9, c9, e9⟩ := Kd.R_slice hR9
      subst e9
      have HD9 := Aside0.mk ((HD5.out).below hb9)
      have HR9 := Aside0.mk (show Kd.R (Kd.int .i64) 3 _ w.heap.size (fun k => w.heap.size + 2 ≤ k) (.slice A9 rk.length c9) rk from Kd.R_lower (Kd.R_mono hR9 (fun k hk => Nat.le_trans (HHe.out) hk)) (by have := HHe.out; omega))
      have HBX9 := Aside0.mk (blk_below HBX.out hb9)
      have HNE := Aside0.mk (show (Value.slice A9 rk.length c9).ownBlock ≠ some b5 from fun e => by have h1 := hR9.1 _ e; have h2 := blk_lt HBX.out; have h3 : W5.heap.size ≤ b5 := h1; omega)
      refine ⟨_, rfl, ?_⟩
      refine hK.out _ _ ⟨(HD9.out).cells.1, (HD9.out).cells.2.1⟩ (fun hHeld => ?_)
      clear hK K
      refine norm_ (a' := ?_) ?_ ?_
      rotate_left
      · show Act.put _ (some 21) _ = _
        simp only [Act.put, List.setIfInBounds_toArray, List.set_cons_zero, List.set_cons_succ]
        rfl
      refine take_ (i := 5) (N := some 24) (v := ?_) (a' := ?_) #[true, true, true, true, true, true, true, false] rfl rfl (take_ofW HT_.out HW_.out (by kernel_rfl)) (fun _ _ _ h => h) (Or.inl ⟨by rfl, ?_⟩) hHeld ?_ ?_
      rotate_left
      · rintro w' ⟨s0, s1⟩
        go_simp
        with_reducible rfl
      rotate_left
      · simp only [Act.put, List.setIfInBounds_toArray, List.set_cons_zero, List.set_cons_succ]
        rfl
      exact norm_ (by simp only [putAll, Act.put, List.setIfInBounds_toArray, List.set_cons_zero, List.set_cons_succ]) (hcont (A9, c9, b5) _ ⟨HD9.out, HR9.out, HBX9.out, HBL.out, HNE.out⟩)
  case cont =>
    rintro ⟨A9, c9, b5⟩ W6 ⟨hD, hR9, hbx, hbl, hne⟩
    dsimp only at hD hR9 hbx hbl hne
    refine norm_ (a' := ?_) ?_ ?_
    rotate_left
    · show putAll _ _ = _
      simp only [putAll, Act.put, List.setIfInBounds_toArray, List.set_cons_zero, List.set_cons_succ]
      rfl
    have kb0 : W6.cell? ⟨b5, 0, none⟩ = some (.slice none 0 0) := (blk_cell hbx 0).trans rfl
    have kb1 : W6.cell? ⟨b5, 1, none⟩ = some (.int .i64 0) := (blk_cell hbx 1).trans rfl
    have kb2 : W6.cell? ⟨b5, 2, none⟩ = some (.slice none 0 0) := (blk_cell hbx 2).trans rfl
    have fb0 := blk_frozen hbx 0
    have fb1 := blk_frozen hbx 1
    have fb2 := blk_frozen hbx 2
    have hother : ∀ (W : World) (j : Nat) (u : Value), Kd.R (Kd.int .i64) 3 W w.heap.size (fun k => w.heap.size + 2 ≤ k) (.slice A9 rk.length c9) rk → Kd.R (Kd.int .i64) 3 (W.setCell ⟨b5, j, none⟩ u) w.heap.size (fun k => w.heap.size + 2 ≤ k) (.slice A9 rk.length c9) rk := fun W j u h =>
      R_other h b5 hne (fun _ h => by cases h) (fun k hk _ => Below.heap_setCell _ _ _ k hk)
    have HDO := Aside0.mk (show DO w b5 (.slice A1 rk.length c1) (.int .i64 st) (.slice A2 M.length c2) rk st (.slice A9 rk.length c9) (.slice none 0 0) (fun k => b5 < k) [] (((W6.setCell ⟨b5, 0, none⟩ (.slice A9 rk.length c9)).setCell ⟨b5, 1, none⟩ (.int .i64 st)).setCell ⟨b5, 2, none⟩ (.slice none 0 0)) from
      ⟨((hD.far (by omega) _).far (by omega) _).far (by omega) _, blk_set (blk_set (blk_set hbx 0 _) 1 _) 2 _, hbl, hother _ 2 _ (hother _ 1 _ (hother _ 0 _ hR9)), hne, fun k hk => hk, Kd.R_nil _ _ _ _ _⟩)
    clear hD hR9 hbx hbl hne hother HD2d HHd HD2
    refine last_ (i := 7) (N := none) #[true, true, true, true, true, true, true, true] rfl rfl (one_of HT_.out (by kernel_rfl)) (by decide) (fun K hK => ?_)
    refine skip_ (w1 := ?_) (by rfl) rfl ?_ ?_
    rotate_left
    · go_simp
      rfl
    refine hK.out _ _ ?_
    clear hK K
    refine done_ (done_of HT_.out (by kernel_rfl)) ?_
    refine NoPanic.normal ?_
    clear kb0 kb1 kb2 fb0 fb1 fb2
    generalize ((W6.setCell ⟨b5, 0, none⟩ (.slice A9 rk.length c9)).setCell ⟨b5, 1, none⟩ (.int .i64 st)).setCell ⟨b5, 2, none⟩ (.slice none 0 0) = W7 at *
    obtain ⟨_, _, k2⟩ := (HDO.out).dw.cells
    have HNM := Aside0.mk (HOK.out).nM
    go_wp2
    clear k2
    go_loopg [28] M.length (fun gg v28 wi => ∃ (q : Nat) (vm : Value), q ≤ M.length ∧ M.length - q ≤ gg ∧ v28 = .int .i64 q ∧ Aside0 (DO w b5 (.slice A1 rk.length c1) (.int .i64 st) (.slice A2 M.length c2) rk st (.slice A9 rk.length c9) vm (fun k => b5 < k) ((M.take q).map rowD) wi) ∧ Aside0 (mvOkD (M.take q) = true))
    case atStart => exact ⟨0, _, Nat.zero_le _, Nat.le_refl _, rfl, HDO, ⟨rfl⟩⟩
    case round =>
      clear HDO
      obtain ⟨q, vm, hq, hgg, rfl, HO, HV⟩ := hrel
      by_cases hlt : q < M.length
      · have hltz : (q : Int) < (M.length : Int) := by omega
        have HLT := Aside0.mk hlt
        obtain ⟨ad, A0, c0, e, hk, hc0, hrow⟩ := at_sl HM.out q hlt
        subst e
        have hk2 := pw_cell_below (HO.out).dw.hb hk
        have HROW := Aside0.mk hrow
        have HRM := Aside0.mk (getD_memY [] hlt)
        have HKQ := Aside0.mk (show wrap64 ((q : Int) + 1) = ((q + 1 : Nat) : Int) by rw [wr_id (by omega) (by have := HNM.out; omega)]; rfl)
        have HTK := Aside0.mk (show (M.take (q + 1)).map rowD = (M.take q).map rowD ++ [rowD (M.getD q [])] by
          rw [List.take_add_one, List.map_append, List.getD_eq_getElem?_getD, List.getElem?_eq_getElem hlt]; rfl)
        have HTV := Aside0.mk (show mvOkD (M.take (q + 1)) = (mvOkD (M.take q) && (M.getD q []).all dualOk) by
          unfold mvOkD
          rw [List.take_add_one, List.all_append, List.getD_eq_getElem?_getD, List.getElem?_eq_getElem hlt]; simp)
        clear hk hc0 hrow hlt hq
        generalize M.getD q [] = row at *
        have HRL2 := Aside0.mk (show row.length ≤ 24 from by rw [(HOK.out).row row HRM.out]; exact HRL.out)
        have HB0 := Aside0.mk ((HO.out).bound)
        generalize wr = WR at *
        have HOA := Aside0.mk ((HB0.out).move (below_alloc (Below.refl _ _) (.cells (madeCells #[.slice none 0 0] row.length) 66)))
        have HRW := Aside0.mk (R_rep WR w.heap.size row.length ((HO.out).dw.hb.size) (by unfold maxLen; have := HRL2.out; omega))
        have HGB := Aside0.mk (blk_lt (HO.out).bx)
        have hmk : ∀ W : World, (Instr.makeSlice 65 (.int .i64 (row.length : Int)) (.int .i64 (row.length : Int))).run Tryz.prog W = .ok (.slice (some ⟨W.heap.size, 0, none⟩) row.length row.length) (W.alloc (.cells (madeCells #[.slice none 0 0] row.length) 66)) := fun W => run_make_row' 65 66 (.slice none 0 0) 24 Tryz.underlying65 Q.info66 rfl .i64 .i64 row.length (by have := HRL2.out; omega) (by have := HRL2.out; omega) W
        clear HO HB0
        go_upto_region 9 with (fail)
        clear hmk hk2 hltz
        have HGL := Aside0.mk (blk_new WR (.cells (madeCells #[.slice none 0 0] row.length) 66))
        generalize WR.alloc (.cells (madeCells #[.slice none 0 0] row.length) 66) = W8 at *
        generalize WR.heap.size = g at *
        go_wp2
        go_loopg [37] row.length (fun gg v37 wi => ∃ f : Nat, f ≤ row.length ∧ row.length - f ≤ gg ∧ v37 = .int .i64 f ∧ Aside0 (DO w b5 (.slice A1 rk.length c1) (.int .i64 st) (.slice (some ad) M.length c2) rk st (.slice A9 rk.length c9) vm (fun k => b5 < k ∧ k < g) ((M.take q).map rowD) wi) ∧ Aside0 (kA2.R 66 wi w.heap.size (fun k => g ≤ k) (.slice (some ⟨g, 0, none⟩) row.length row.length) ((row.take f).map dualD ++ List.replicate (row.length - f) [])) ∧ Aside0 ((row.take f).all dualOk = true))
        case atStart => exact ⟨0, Nat.zero_le _, Nat.le_refl _, rfl, HOA, HRW, ⟨rfl⟩⟩
        case round =>
          clear HOA HRW HGL
          obtain ⟨f, hf, hgg, rfl, HO, HW, HA⟩ := hrel
          by_cases hlt : f < row.length
          · have hltz : (f : Int) < (row.length : Int) := by omega
            have HLF := Aside0.mk hlt
            obtain ⟨ad3, A3, c3, e, hk, hc3, halt⟩ := at_sl HROW.out f hlt
            subst e
            have hk2 := pw_cell_below (HO.out).dw.hb hk
            have HAM := Aside0.mk (getD_memY [] hlt)
            have HKF := Aside0.mk (show wrap64 ((f : Int) + 1) = ((f + 1 : Nat) : Int) by rw [wr_id (by omega) (by have := HRL2.out; omega)]; rfl)
            have HTF := Aside0.mk (show (row.take (f + 1)).map dualD = (row.take f).map dualD ++ [dualD (row.getD f [])] by
              rw [List.take_add_one, List.map_append, List.getD_eq_getElem?_getD, List.getElem?_eq_getElem hlt]; rfl)
            have HTA := Aside0.mk (show (row.take (f + 1)).all dualOk = ((row.take f).all dualOk && dualOk (row.getD f [])) by
              rw [List.take_add_one, List.all_append, List.getD_eq_getElem?_getD, List.getElem?_eq_getElem hlt]; simp)
            have HTL := Aside0.mk (show ((row.take f).map dualD).length = f by rw [List.length_map, List.length_take]; omega)
            have HALT := Aside0.mk (Kd.C_below halt (HO.out).dw.hb)
            have HIN := Aside0.mk (inN_of HOK.out HRM.out HAM.out)
            clear hk hc3 halt hlt hf
            generalize row.getD f [] = alts at *
            have HDL := Aside0.mk (dual_calls alts A3 c3 wr HALT.out (HIN.out).1 (HIN.out).2 ((HT.out).below (HO.out).dw.hb))
            go_wp2_with fail
            refine (HDL.out).mono ?_
            rintro E W9 ⟨v9, rfl, hR, hb⟩
            have HO9 := Aside0.mk ((HO.out).move hb)
            have HW9 := Aside0.mk (Kd.R_below HW.out hb)
            have HR9 := Aside0.mk (show kA1.R 69 W9 w.heap.size (fun k => wr.heap.size ≤ k) v9 (dualD alts) from Kd.R_lower hR (HO.out).dw.hb.size)
            have HGW := Aside0.mk (show g < wr.heap.size from (ownBlock_typed HW.out rfl).2)
            have HGC := Aside0.mk (ownBlock_typed HW9.out (k := g) rfl).1
            clear hR hb hk2 hltz HO HW HDL
            cases hok : dualOk alts with
            | false =>
              have HP := Aside0.mk (show dualR rk st M = (3, [], 0, []) by
                rw [HPR.out, if_neg]
                intro h
                have h1 := List.all_eq_true.1 (List.all_eq_true.1 h row HRM.out) alts HAM.out
                rw [hok] at h1
                cases h1)
              clear hok
              obtain ⟨⟨k0, k1, k2⟩, f0, f1, f2⟩ := (HO9.out).dw.rcells
              have HD3 := Aside0.mk ((HO9.out).dw.put (.slice none 0 0) (.int .i64 0) (.slice none 0 0))
              unfold put3 at HD3
              go_wp2
              refine bodyPost_ret (results_row_tmp rfl _ _ (w.heap.size + 1) 25 #[.slice none 0 0, .int .i64 0, .slice none 0 0] (0, 0) _ rfl (HD3.out).h2 Tryz.underlying25 rfl (by kernel_rfl)) rfl ?_
              rw [HP.out]
              exact ⟨_, _, rfl, Kd.R_nil _ _ _ _ _, Kd.R_nil _ _ _ _ _, (HD3.out).hb⟩
            | true =>
              have HA2 := Aside0.mk (show (row.take (f + 1)).all dualOk = true by rw [HTA.out, HA.out, hok]; rfl)
              obtain ⟨uc, hcu, hfu⟩ := R_cell1 HW9.out f HLF.out
              obtain ⟨hW2, _⟩ := R_puts HW9.out f HLF.out HR9.out (fun k hk => by have h1 : wr.heap.size ≤ k := hk; have h2 := HGW.out; exact ⟨by show g ≤ k; omega, by omega⟩)
              have HW2 := Aside0.mk (show kA2.R 66 (W9.setCell ⟨g, f, none⟩ v9) w.heap.size (fun k => g ≤ k) (.slice (some ⟨g, 0, none⟩) row.length row.length) ((row.take (f + 1)).map dualD ++ List.replicate (row.length - (f + 1)) []) from by
                rw [HTF.out, ← set_row HTL.out HLF.out]; exact hW2)
              obtain ⟨cg, hcg⟩ := HGC.out
              have HO2 := Aside0.mk ((HO9.out).far (j := f) hcg HGB.out (fun k hk => by have := hk.2; omega) v9)
              obtain ⟨A10, c10, e10⟩ := Kd.R_slice (HR9.out)
              subst e10
              have hltz : (f : Int) < (row.length : Int) := by have := HLF.out; omega
              clear hok hW2 hcg
              go_wp2
              go_roundg (row.length - (f + 1))
              case measure => have := HLF.out; omega
              case rel => exact ⟨f + 1, HLF.out, Nat.le_refl _, by rw [HKF.out], HO2, HW2, HA2⟩
          · obtain rfl : f = row.length := by omega
            have HWF := Aside0.mk (show kA2.R 66 wr w.heap.size (fun k => g ≤ k) (.slice (some ⟨g, 0, none⟩) row.length row.length) (rowD row) from by have := HW.out; rw [List.take_length, Nat.sub_self, List.replicate_zero, List.append_nil] at this; exact this)
            have HV2 := Aside0.mk (show mvOkD (M.take (q + 1)) = true by have h := HA.out; rw [List.take_length] at h; rw [HTV.out, HV.out, h]; rfl)
            have HMO := Aside0.mk ((HO.out).mono)
            have HOWN := Aside0.mk (show ∀ k, vm.ownBlock = some k → k < g from fun k hk => ((HO.out).rm.1 k hk).2)
            have kb2 : wr.cell? ⟨b5, 2, none⟩ = some vm := (blk_cell (HO.out).bx 2).trans rfl
            have HML := Aside0.mk (show ((M.take q).map rowD).length ≤ 6 by rw [List.length_map, List.length_take]; have := HNM.out; omega)
            have HL7 := Aside0.mk (show ((M.take q).map rowD ++ [rowD row]).length = q + 1 by rw [List.length_append, List.length_map, List.length_take, List.length_singleton]; have := HLT.out; omega)
            have HLR := Aside0.mk (show (rowD row).length = row.length by unfold rowD; rw [List.length_map])
            clear hf hgg hlt HW HA HO
            go_wp2_with ((with_reducible refine gate_builtin (b := .append) (xs := #[.tmp 56, .tmp 58]) rfl ?_); at_builtin; refine Kd.R_append kA3 (w0 := w) w.heap.size rfl (.tmp 56) (.tmp 58) 23 65 (.slice none 0 0) 24 rfl Tryz.underlying23 Q.info65 rfl (show 0 < 1 by decide) (by decide) vm ((M.take q).map rowD) (rowD row) [.slice (some ⟨g, 0, none⟩) row.length row.length] (fun k => b5 < k) (fun k => g ≤ k) rfl rfl ⟨_, rfl, HWF.out⟩ (fun k hk => ⟨by have h1 := HGB.out; have h3 : g ≤ k := hk; show b5 < k; omega, fun e => by have h1 := HOWN.out k e.symm; have h3 : g ≤ k := hk; omega⟩) (fun k hk => by have h1 := blk_lt (HMO.out).bx; have h3 : wr.heap.size ≤ k := hk; show b5 < k; omega) (HMO.out).rm (HMO.out).dw.hb (HMO.out).dw.hb.size (by have := HML.out; omega) ?_; intro v7 w7 ho7 hb7 hg7 hat7; have HO7 := Aside0.mk ((HMO.out).put (rowD row) ho7 hb7 hg7); rw [← HTK.out] at HO7; have HBK := Aside0.mk (blk_grown (HMO.out).bx hg7 (fun e => by have := (HMO.out).rm.1 _ e.symm; omega)); have k7 : w7.cell? ⟨b5, 2, none⟩ = some vm := (blk_cell HBK.out 2).trans rfl; have f7 := blk_frozen HBK.out 2; (obtain ⟨A7, c7, e7⟩ := Kd.R_slice ho7); rw [HL7.out] at e7; subst e7; clear ho7 hb7 hg7 hat7)
            go_roundg (M.length - (q + 1))
            case measure => have := HLT.out; omega
            case rel => exact ⟨q + 1, _, HLT.out, Nat.le_refl _, by rw [HKQ.out], HO7, HV2⟩
      · obtain rfl : q = M.length := by omega
        rw [List.take_length] at HO HV
        have HP := Aside0.mk (show dualR rk st M = (0, rk, st, M.map rowD) by rw [HPR.out, if_pos HV.out])
        obtain ⟨A7, c7, e7⟩ := Kd.R_slice (HO.out).rm
        rw [List.length_map] at e7
        subst e7
        have kb0 : wr.cell? ⟨b5, 0, none⟩ = some (.slice A9 rk.length c9) := (blk_cell (HO.out).bx 0).trans rfl
        have kb1 : wr.cell? ⟨b5, 1, none⟩ = some (.int .i64 st) := (blk_cell (HO.out).bx 1).trans rfl
        have kb2 : wr.cell? ⟨b5, 2, none⟩ = some (.slice A7 M.length c7) := (blk_cell (HO.out).bx 2).trans rfl
        obtain ⟨⟨k0, k1, k2⟩, f0, f1, f2⟩ := (HO.out).dw.rcells
        have HD3 := Aside0.mk ((HO.out).dw.put (.slice A9 rk.length c9) (.int .i64 st) (.slice A7 M.length c7))
        have HRR := Aside0.mk (Kd.R_mono (R_same (w1 := put3 wr (w.heap.size + 1) (.slice A9 rk.length c9) (.int .i64 st) (.slice A7 M.length c7)) (HO.out).rr (fun k hk _ => put3_heap _ _ _ _ _ k (by omega))) (ok' := fun k => w.heap.size ≤ k) (fun k hk => by omega))
        have HRM := Aside0.mk (Kd.R_mono (R_same (w1 := put3 wr (w.heap.size + 1) (.slice A9 rk.length c9) (.int .i64 st) (.slice A7 M.length c7)) (HO.out).rm (fun k hk _ => put3_heap _ _ _ _ _ k (by have h1 : b5 < k := hk; have := (HO.out).hbl; omega))) (ok' := fun k => w.heap.size ≤ k) (fun k hk => by have h1 : b5 < k := hk; have := (HO.out).hbl; omega))
        unfold put3 at HD3 HRR HRM
        clear HO HV hq hgg hlt
        go_wp2
        refine bodyPost_ret (results_row_tmp rfl _ _ (w.heap.size + 1) 25 #[.slice A9 rk.length c9, .int .i64 st, .slice A7 M.length c7] (0, 0) _ rfl (HD3.out).h2 Tryz.underlying25 rfl (by kernel_rfl)) rfl ?_
        rw [HP.out]
        exact ⟨_, _, rfl, HRR.out, HRM.out, (HD3.out).hb⟩
end Go.Proofs.YtbmcigakiibncaaGreatDoor.H
namespace Go.Proofs.YtbmcigakiibncaaGreatDoor.H
open Go.RowKit Go.Proofs.YtbmcigakiibncaaGreatDoorW.PrintWords Go.Proofs.YtbmcigakiibncaaGreatDoorW.PrintLast Go.Proofs.YtbmcigakiibncaaGreatDoorW.PrintMore
set_option linter.unusedVariables false
set_option linter.unusedSimpArgs false
structure RG (w W : World) (t : ByteArray) (l : List UInt8) (bad : Bool) (x y z : Value) : Prop where
  hb : Below w.heap.size w W
  hr : W.heap[w.heap.size]? = some (.cells #[.slice none 0 0, .int .i64 0, .slice none 0 0] 25 (0, 0))
  rd : RD w W (w.heap.size + 1) t l bad
  ha : W.heap[w.heap.size + 2]? = some (.cells #[x, y, z] 25 (0, 0))
section
variable {w W W1 : World} {t : ByteArray} {l l1 : List UInt8} {bad bad1 : Bool} {x y z : Value}
theorem RG.lt (h : RG w W t l bad x y z) : w.heap.size + 3 ≤ W.heap.size := blk_lt h.ha
theorem RG.below (h : RG w W t l bad x y z) (hb : Below W.heap.size W W1) : RG w W1 t l bad x y z :=
  ⟨below_then h.hb h.hb.size hb, blk_below h.hr hb, ⟨⟨blk_below h.rd.isr.1 hb, h.rd.isr.2⟩, h.rd.suf⟩, blk_below h.ha hb⟩
theorem RG.keep (h : RG w W t l bad x y z) (hr : RD w W1 (w.heap.size + 1) t l1 bad1) (hb : Below w.heap.size w W1) (hk : KeepBut W W1 (w.heap.size + 1) none) : RG w W1 t l1 bad1 x y z :=
  ⟨hb, (hk.2 _ (blk_lt h.hr) (by omega) (by simp)).trans h.hr, hr, (hk.2 _ (blk_lt h.ha) (by omega) (by simp)).trans h.ha⟩
theorem RG.grown (h : RG w W t l bad x y z) {row : Option Nat} (hb : Below w.heap.size w W1) (hg : W.grownBy W1 row) (hne : ∀ k, row = some k → w.heap.size + 3 ≤ k) : RG w W1 t l bad x y z :=
  ⟨hb, blk_grown h.hr hg (fun e => by have := hne _ e.symm; omega), ⟨⟨blk_grown h.rd.isr.1 hg (fun e => by have := hne _ e.symm; omega), h.rd.isr.2⟩, h.rd.suf⟩, blk_grown h.ha hg (fun e => by have := hne _ e.symm; omega)⟩
theorem RG.far (h : RG w W t l bad x y z) {a j : Nat} (ha : w.heap.size + 3 ≤ a) (u : Value) : RG w (W.setCell ⟨a, j, none⟩ u) t l bad x y z :=
  ⟨h.hb.setCell (p := ⟨a, j, none⟩) (by show w.heap.size ≤ a; omega) _, blk_far h.hr (by show w.heap.size ≠ a; omega) _, ⟨⟨blk_far h.rd.isr.1 (by show w.heap.size + 1 ≠ a; omega) _, h.rd.isr.2⟩, h.rd.suf⟩, blk_far h.ha (by show w.heap.size + 2 ≠ a; omega) _⟩
theorem RG.set0 (h : RG w W t l bad x y z) (u : Value) : RG w (W.setCell ⟨w.heap.size + 2, 0, none⟩ u) t l bad u y z :=
  ⟨h.hb.setCell (p := ⟨w.heap.size + 2, 0, none⟩) (by show w.heap.size ≤ w.heap.size + 2; omega) _, blk_far h.hr (by show w.heap.size ≠ w.heap.size + 2; omega) _, ⟨⟨blk_far h.rd.isr.1 (by show w.heap.size + 1 ≠ w.heap.size + 2; omega) _, h.rd.isr.2⟩, h.rd.suf⟩, blk_set h.ha 0 u⟩
theorem RG.set1 (h : RG w W t l bad x y z) (u : Value) : RG w (W.setCell ⟨w.heap.size + 2, 1, none⟩ u) t l bad x u z :=
  ⟨h.hb.setCell (p := ⟨w.heap.size + 2, 1, none⟩) (by show w.heap.size ≤ w.heap.size + 2; omega) _, blk_far h.hr (by show w.heap.size ≠ w.heap.size + 2; omega) _, ⟨⟨blk_far h.rd.isr.1 (by show w.heap.size + 1 ≠ w.heap.size + 2; omega) _, h.rd.isr.2⟩, h.rd.suf⟩, blk_set h.ha 1 u⟩
theorem RG.set2 (h : RG w W t l bad x y z) (u : Value) : RG w (W.setCell ⟨w.heap.size + 2, 2, none⟩ u) t l bad x y u :=
  ⟨h.hb.setCell (p := ⟨w.heap.size + 2, 2, none⟩) (by show w.heap.size ≤ w.heap.size + 2; omega) _, blk_far h.hr (by show w.heap.size ≠ w.heap.size + 2; omega) _, ⟨⟨blk_far h.rd.isr.1 (by show w.heap.size + 1 ≠ w.heap.size + 2; omega) _, h.rd.isr.2⟩, h.rd.suf⟩, blk_set h.ha 2 u⟩
theorem RG.mark (h : RG w W t l bad x y z) : RG w (W.setCell ⟨w.heap.size + 1, 2, none⟩ (.bool true)) t l true x y z :=
  ⟨h.hb.setCell (p := ⟨w.heap.size + 1, 2, none⟩) (by show w.heap.size ≤ w.heap.size + 1; omega) _, blk_far h.hr (by show w.heap.size ≠ w.heap.size + 1; omega) _, ⟨⟨blk_set h.rd.isr.1 2 (.bool true), h.rd.isr.2⟩, h.rd.suf⟩, blk_far h.ha (by show w.heap.size + 2 ≠ w.heap.size + 1; omega) _⟩
theorem RG.rcells (h : RG w W t l bad x y z) : W.cell? ⟨w.heap.size + 1, 0, none⟩ = some (.string t) ∧ W.cell? ⟨w.heap.size + 1, 1, none⟩ = some (.int .i64 ((t.size - l.length : Nat) : Int)) ∧ W.cell? ⟨w.heap.size + 1, 2, none⟩ = some (.bool bad) ∧ W.frozen? ⟨w.heap.size + 1, 2, none⟩ = false :=
  ⟨(blk_cell h.rd.isr.1 0).trans rfl, (blk_cell h.rd.isr.1 1).trans rfl, (blk_cell h.rd.isr.1 2).trans rfl, blk_frozen h.rd.isr.1 2⟩
theorem RG.acells (h : RG w W t l bad x y z) : (W.cell? ⟨w.heap.size + 2, 0, none⟩ = some x ∧ W.cell? ⟨w.heap.size + 2, 1, none⟩ = some y ∧ W.cell? ⟨w.heap.size + 2, 2, none⟩ = some z) ∧ W.frozen? ⟨w.heap.size + 2, 0, none⟩ = false ∧ W.frozen? ⟨w.heap.size + 2, 1, none⟩ = false ∧ W.frozen? ⟨w.heap.size + 2, 2, none⟩ = false :=
  ⟨⟨(blk_cell h.ha 0).trans rfl, (blk_cell h.ha 1).trans rfl, (blk_cell h.ha 2).trans rfl⟩, blk_frozen h.ha 0, blk_frozen h.ha 1, blk_frozen h.ha 2⟩
theorem RG.ocells (h : RG w W t l bad x y z) : W.frozen? ⟨w.heap.size, 0, none⟩ = false ∧ W.frozen? ⟨w.heap.size, 1, none⟩ = false ∧ W.frozen? ⟨w.heap.size, 2, none⟩ = false :=
  ⟨blk_frozen h.hr 0, blk_frozen h.hr 1, blk_frozen h.hr 2⟩
theorem RG.app (h : RG w W t l bad x y z) {α : Type} {d : Kd α} {e b0 : Nat} {v : Value} {xs : List α} (hR : d.R e W b0 (fun k => w.heap.size + 3 ≤ k) v xs) (hb : Below w.heap.size w W1) (hg : W.grownBy W1 v.ownBlock) : RG w W1 t l bad x y z :=
  h.grown hb hg fun k hk => hR.1 k hk
end
theorem RG.start (w : World) (t : ByteArray) : RG w (((w.alloc (.cells #[.slice none 0 0, .int .i64 0, .slice none 0 0] 25)).alloc (.cells #[.string t, .int .i64 0, .bool false] 99)).alloc (.cells #[.slice none 0 0, .int .i64 0, .slice none 0 0] 25)) t t.data.toList false (.slice none 0 0) (.int .i64 0) (.slice none 0 0) := by
  refine ⟨below_alloc (below_alloc (below_alloc (Below.refl w.heap.size w) _) _) _, blk_alloc (blk_alloc (blk_new w _) _) _, ⟨⟨?_, by omega⟩, [], rfl⟩, ?_⟩
  · have h := blk_alloc (blk_at2 w (.cells #[.slice none 0 0, .int .i64 0, .slice none 0 0] 25) (.cells #[.string t, .int .i64 0, .bool false] 99)) (.cells #[.slice none 0 0, .int .i64 0, .slice none 0 0] 25)
    rw [h, ← Lib.size_eq, Nat.sub_self]; rfl
  · have h := blk_new ((w.alloc (.cells #[.slice none 0 0, .int .i64 0, .slice none 0 0] 25)).alloc (.cells #[.string t, .int .i64 0, .bool false] 99)) (.cells #[.slice none 0 0, .int .i64 0, .slice none 0 0] 25)
    have e : ((w.alloc (.cells #[.slice none 0 0, .int .i64 0, .slice none 0 0] 25)).alloc (.cells #[.string t, .int .i64 0, .bool false] 99)).heap.size = w.heap.size + 2 := by simp
    rw [e] at h
    exact h
theorem MM.keep {b0 B : Nat} {W W1 : World} {v : Value} {M : Mv} {m : Nat} {gs : List Nat} {u : Nat → Nat → Value} (h : MM b0 B W v M m gs u) {g : Nat} (hk : KeepBut W W1 g none) (hg : g < B) : MM b0 B W1 v M m gs u :=
  h.move fun k h1 h2 => hk.2 k h2 (by omega) (by simp)
theorem R_keep3 {α : Type} {d : Kd α} {e base b g : Nat} {W W1 : World} {v : Value} {xs : List α} (h : d.R e W base (fun k => b ≤ k) v xs) (hk : KeepBut W W1 g none) (hg : g < b) : d.R e W1 base (fun k => b ≤ k) v xs :=
  Kd.R_keep h hk fun k hk => by have h1 : b ≤ k := hk; omega
theorem rget_fin {w W : World} {t : ByteArray} {l : List UInt8} {bad : Bool} {x y z : Value} (h : RG w W t l bad x y z) {rk : List Int} {st : Int} {M : Mv} {e : Int} (A1 : Option Addr) (c1 : Nat) (A2 : Option Addr) (c2 : Nat)
    (hg : getR t = (e, rk, st, M)) (hr : Kd.C (Kd.int .i64) (put3 W w.heap.size (.slice A1 rk.length c1) (.int .i64 st) (.slice A2 M.length c2)) A1 rk.length rk) (hc1 : rk.length ≤ c1)
    (hM : Kd.C kA3 (put3 W w.heap.size (.slice A1 rk.length c1) (.int .i64 st) (.slice A2 M.length c2)) A2 M.length M) (hc2 : M.length ≤ c2) :
    (put3 W w.heap.size (.slice A1 rk.length c1) (.int .i64 st) (.slice A2 M.length c2)).heap[w.heap.size]? = some (.cells #[.slice A1 rk.length c1, .int .i64 st, .slice A2 M.length c2] 25 (0, 0)) ∧
    GetE t w (.returned (.tuple #[.agg #[.slice A1 rk.length c1, .int .i64 st, .slice A2 M.length c2], .int .i64 e])) (put3 W w.heap.size (.slice A1 rk.length c1) (.int .i64 st) (.slice A2 M.length c2)) := by
  constructor
  · unfold put3
    exact blk_set (blk_set (blk_set h.hr 0 _) 1 _) 2 _
  · unfold GetE
    rw [hg]
    refine ⟨A1, c1, A2, c2, rfl, hr, hc1, hM, hc2, ?_⟩
    unfold put3
    exact ((h.hb.setCell (p := ⟨w.heap.size, 0, none⟩) (Nat.le_refl _) _).setCell (p := ⟨w.heap.size, 1, none⟩) (Nat.le_refl _) _).setCell (p := ⟨w.heap.size, 2, none⟩) (Nat.le_refl _) _
end Go.Proofs.YtbmcigakiibncaaGreatDoor.H
namespace Go.Proofs.YtbmcigakiibncaaGreatDoor.H
open Go.RowKit Go.Proofs.YtbmcigakiibncaaGreatDoorW.PrintWords Go.Proofs.YtbmcigakiibncaaGreatDoorW.PrintLast Go.Proofs.YtbmcigakiibncaaGreatDoorW.PrintMore
open Go.Proofs.YtbmcigakiibncaaGreatDoor.Q (S28 k28 S83 k83)
set_option linter.unusedVariables false
def sgI (z : Int) : Int := if z < 0 then -1 else if z = 0 then 0 else 1
theorem sgI_neg (z : Int) : sgI z < 0 ↔ z < 0 := by unfold sgI; split <;> (try split) <;> omega
theorem sgI_zero (z : Int) : sgI z = 0 ↔ z = 0 := by unfold sgI; split <;> (try split) <;> omega
def allF (p : Nat → Bool) : Nat → Nat → Bool
  | _, 0 => true
  | j, d + 1 => p j && allF p (j + 1) d
theorem allF_iff (p : Nat → Bool) (d : Nat) : ∀ j, allF p j d = true ↔ ∀ i, j ≤ i → i < j + d → p i = true := by
  induction d with
  | zero => intro j; simp [allF]; omega
  | succ d ih =>
    intro j
    rw [allF, Bool.and_eq_true, ih]
    constructor
    · rintro ⟨h1, h2⟩ i hi hl
      rcases Nat.eq_or_lt_of_le hi with rfl | h
      · exact h1
      · exact h2 i (by omega) (by omega)
    · exact fun h => ⟨h j (Nat.le_refl _) (by omega), fun i hi hl => h i (by omega) (by omega)⟩
theorem beforeR_ev (x y : Nd) : Ev (fun k => Q.virgationref09_Before.f k x.f0 x.f1 y.f0 y.f1) (sgI (befI x y)) := by
  unfold Q.virgationref09_Before.f
  by_cases h : x.f0 = y.f0
  · rw [show befI x y = x.f1 - y.f1 by simp [befI, h]]
    simp only [if_pos h]
    refine ev_end fun k => ?_
    simp only [Q.virgationref09_Before.j0, sgI]
    by_cases h1 : x.f1 < y.f1
    · rw [decide_eq_true h1, if_pos rfl, if_pos (show x.f1 - y.f1 < 0 by omega)]
    · rw [decide_eq_false h1, if_neg (by simp), if_neg (show ¬ x.f1 - y.f1 < 0 by omega)]
      by_cases h2 : x.f1 = y.f1
      · rw [if_pos (show (x.f0 == y.f0 && x.f1 == y.f1) = true by rw [h, h2]; simp), if_pos (show x.f1 - y.f1 = 0 by omega)]
      · rw [if_neg (by rw [Bool.and_eq_true, beq_iff_eq, beq_iff_eq]; exact fun hh => h2 hh.2), if_neg (show ¬ x.f1 - y.f1 = 0 by omega)]
  · rw [show befI x y = x.f0 - y.f0 by simp [befI, h]]
    by_cases h1 : x.f0 < y.f0
    · simp only [if_neg h, if_pos h1]
      refine ev_end fun k => ?_
      simp only [Q.virgationref09_Before.j0, sgI]
      rw [if_pos trivial, if_pos (show x.f0 - y.f0 < 0 by omega)]
    · simp only [if_neg h, if_neg h1]
      refine ev_end fun k => ?_
      simp only [Q.virgationref09_Before.j0, sgI]
      rw [if_neg (by simp), if_neg (by rw [Bool.and_eq_true, beq_iff_eq, beq_iff_eq]; exact fun hh => h hh.1), if_neg (show ¬ x.f0 - y.f0 < 0 by omega), if_neg (show ¬ x.f0 - y.f0 = 0 by omega)]
theorem rdN_at {l : List Nd} {j : Nat} : Q.rd_T83 l (j : Int) = l.getD j zN := by simp [Q.rd_T83, zN, Q.z83]
theorem getD_memD {α : Type} {l : List α} {i : Nat} (d : α) (h : i < l.length) : l.getD i d ∈ l := by
  rw [List.getD_eq_getElem?_getD, List.getElem?_eq_getElem h]; exact List.getElem_mem h
theorem wrap_pred {j : Nat} (h : j < 9223372036854775807) : wrap64 (((j + 1 : Nat) : Int) - 1) = (j : Int) := by unfold wrap64; omega
theorem compareR_ev (a b : List Nd) (ha : a.length ≤ 9223372036854775807) (d : Nat) : ∀ j : Nat, a.length - j = d → j ≤ a.length → j ≤ b.length → Ev (fun k => Q.virgationref09_Compare.l0 k a b (j : Int)) (sgI (cmpL (a.drop j) (b.drop j))) := by
  induction d with
  | zero =>
    intro j hd hj hjb
    rw [List.drop_eq_nil_of_le (show a.length ≤ j by omega)]
    have h : Ev (fun k => Q.virgationref09_Compare.j1 k a b (j : Int) false) (sgI (cmpL [] (b.drop j))) := by
      refine ev_end fun k => ?_
      simp only [Q.virgationref09_Compare.j1]
      rw [if_neg (by simp)]
      cases e : b.drop j with
      | nil =>
        have := List.drop_eq_nil_iff.1 e
        rw [if_neg (by omega), if_neg (by omega)]; rfl
      | cons y r =>
        have : j < b.length := by
          apply Classical.byContradiction; intro hc
          rw [List.drop_eq_nil_of_le (by omega)] at e; cases e
        rw [if_pos (by omega)]; rfl
    refine ev_next h fun k => ?_
    simp only [Q.virgationref09_Compare.l0]
    rw [if_neg (by omega)]
  | succ d ih =>
    intro j hd hj hjb
    have hja : j < a.length := by omega
    by_cases hb : j < b.length
    · have e1 : a.drop j = a.getD j zN :: a.drop (j + 1) := by rw [List.drop_eq_getElem_cons hja]; simp [List.getD_eq_getElem?_getD, hja]
      have e2 : b.drop j = b.getD j zN :: b.drop (j + 1) := by rw [List.drop_eq_getElem_cons hb]; simp [List.getD_eq_getElem?_getD, hb]
      have h : Ev (fun k => Q.virgationref09_Compare.j1 k a b (j : Int) true) (sgI (cmpL (a.drop j) (b.drop j))) := by
        refine ev_next (f := fun k => (Q.virgationref09_Before.f k ((Q.rd_T83 a j).f0) ((Q.rd_T83 a j).f1) ((Q.rd_T83 b j).f0) ((Q.rd_T83 b j).f1)).bind fun t => if t = 0 then Q.virgationref09_Compare.l0 k a b ((j + 1 : Nat) : Int) else some t) (Ev.bind (beforeR_ev (Q.rd_T83 a j) (Q.rd_T83 b j)) ?_) fun k => ?_
        · rw [rdN_at, rdN_at, e1, e2]
          by_cases hz : befI (a.getD j zN) (b.getD j zN) = 0
          · rw [cmpL, if_neg (fun h => h hz)]
            simp only [if_pos ((sgI_zero _).2 hz)]
            exact ih (j + 1) (by omega) (by omega) (by omega)
          · rw [cmpL, if_pos hz]
            simp only [if_neg (fun h => hz ((sgI_zero _).1 h))]
            exact ev_end fun k => rfl
        · simp only [Q.virgationref09_Compare.j1]
          rw [if_pos trivial, if_pos (by omega), if_pos (by omega), if_pos (by omega), wrap_succ (by omega) (by omega)]
          rfl
      refine ev_next h fun k => ?_
      simp only [Q.virgationref09_Compare.l0]
      rw [if_pos (by omega), decide_eq_true (by omega : (j : Int) < (b.length : Int))]
    · have h : Ev (fun k => Q.virgationref09_Compare.j1 k a b (j : Int) false) (sgI (cmpL (a.drop j) (b.drop j))) := by
        refine ev_end fun k => ?_
        simp only [Q.virgationref09_Compare.j1]
        rw [if_neg (by simp), if_neg (by omega), if_pos (by omega), List.drop_eq_nil_of_le (show b.length ≤ j by omega), List.drop_eq_getElem_cons hja, cmpL]
        rfl
      refine ev_next h fun k => ?_
      simp only [Q.virgationref09_Compare.l0]
      rw [if_pos (by omega), decide_eq_false (by omega : ¬ (j : Int) < (b.length : Int))]
theorem compareF_ev (a b : List Nd) (ha : a.length ≤ 9223372036854775807) : Ev (fun k => Q.virgationref09_Compare.f k a b) (sgI (cmpL a b)) := compareR_ev a b ha _ 0 rfl (Nat.zero_le _) (Nat.zero_le _)
def altAt (l : List Nd) (r n : Int) (i : Nat) : Bool := !(nbad r n (l.getD i zN)) && (decide (i = 0) || decide (befI (l.getD (i - 1) zN) (l.getD i zN) < 0))
def altB (r n : Int) (l : List Nd) : Bool := allF (altAt l r n) 0 l.length
theorem altB_eq (r n : Int) (l : List Nd) : altB r n l = (!(l.any (nbad r n)) && upN l) := by
  rw [Bool.eq_iff_iff, Bool.and_eq_true]
  unfold altB upN
  rw [allF_iff, List.all_eq_true]
  constructor
  · intro h
    constructor
    · rw [Bool.not_eq_true']
      cases e : l.any (nbad r n) with
      | false => rfl
      | true =>
        obtain ⟨x, hx, hb⟩ := List.any_eq_true.1 e
        obtain ⟨i, hi, rfl⟩ := List.mem_iff_getElem.1 hx
        have h1 := h i (Nat.zero_le _) (by omega)
        unfold altAt at h1
        rw [List.getD_eq_getElem?_getD, List.getElem?_eq_getElem hi] at h1
        simp only [Option.getD_some, hb] at h1
        cases h1
    · intro i hi
      have hi := List.mem_range.1 hi
      have h1 := h (i + 1) (Nat.zero_le _) (by omega)
      unfold altAt at h1
      rw [Bool.and_eq_true] at h1
      simpa using h1.2
  · rintro ⟨h1, h2⟩ i _ hi
    unfold altAt
    rw [Bool.and_eq_true]
    constructor
    · rw [Bool.not_eq_true']
      rw [Bool.not_eq_true'] at h1
      cases e : nbad r n (l.getD i zN) with
      | false => rfl
      | true => rw [List.any_eq_true.2 ⟨_, getD_memD zN (show i < l.length by omega), e⟩] at h1; cases h1
    · by_cases h0 : i = 0
      · simp [h0]
      · have h3 := h2 (i - 1) (List.mem_range.2 (by omega))
        rw [show i - 1 + 1 = i by omega] at h3
        rw [h3, Bool.or_true]
def altLAt (l : List (List Nd)) (r n : Int) (i : Nat) : Bool := altB r n (l.getD i []) && (decide (i = 0) || decide (cmpL (l.getD (i - 1) []) (l.getD i []) < 0))
theorem rdL2_at {l : List (List Nd)} {j : Nat} : Q.rd_L2 l (j : Int) = l.getD j [] := by simp [Q.rd_L2]
def altsB (r n : Int) (l : List (List Nd)) : Bool := decide (l.length ≤ 12) && allF (altLAt l r n) 0 l.length
theorem altsB_eq (r n : Int) (l : List (List Nd)) : altsB r n l = (decide (l.length ≤ 12) && l.all (altB r n) && upL l) := by
  rw [Bool.eq_iff_iff]
  unfold altsB upL
  rw [Bool.and_eq_true, Bool.and_eq_true, Bool.and_eq_true, allF_iff, List.all_eq_true, List.all_eq_true]
  constructor
  · rintro ⟨h0, h⟩
    refine ⟨⟨h0, fun x hx => ?_⟩, fun i hi => ?_⟩
    · obtain ⟨i, hi, rfl⟩ := List.mem_iff_getElem.1 hx
      have h1 := h i (Nat.zero_le _) (by omega)
      unfold altLAt at h1
      rw [List.getD_eq_getElem?_getD, List.getElem?_eq_getElem hi, Bool.and_eq_true] at h1
      exact h1.1
    · have hi := List.mem_range.1 hi
      have h1 := h (i + 1) (Nat.zero_le _) (by omega)
      unfold altLAt at h1
      rw [Bool.and_eq_true] at h1
      simpa using h1.2
  · rintro ⟨⟨h0, h1⟩, h2⟩
    refine ⟨h0, fun i _ hi => ?_⟩
    unfold altLAt
    rw [Bool.and_eq_true]
    refine ⟨h1 _ (getD_memD [] (by omega)), ?_⟩
    by_cases h0 : i = 0
    · simp [h0]
    · have h3 := h2 (i - 1) (List.mem_range.2 (by omega))
      rw [show i - 1 + 1 = i by omega] at h3
      rw [h3, Bool.or_true]
end Go.Proofs.YtbmcigakiibncaaGreatDoor.H
namespace Go.Proofs.YtbmcigakiibncaaGreatDoor.H
open Go.RowKit Go.Proofs.YtbmcigakiibncaaGreatDoorW.PrintWords Go.Proofs.YtbmcigakiibncaaGreatDoorW.PrintLast Go.Proofs.YtbmcigakiibncaaGreatDoorW.PrintMore
open Go.Proofs.YtbmcigakiibncaaGreatDoor.Q (S28 k28 S83 k83)
set_option linter.unusedVariables false
theorem C_kids {α : Type} {e : TypeId} {d : Kd α} {w : World} {A : Option Addr} {xs : List (List α)} (h : Kd.C (Kd.slice e d) w A xs.length xs) {x : List α} (hx : x ∈ xs) : ∃ A1, Kd.C d w A1 x.length x := by
  obtain ⟨i, hi, rfl⟩ := List.mem_iff_getElem.1 hx
  obtain ⟨ad, c, e, _, hK, _⟩ := Kd.C_get h [] (i : Int) (by omega) (by omega)
  obtain ⟨A1, c1, _, _, h1⟩ := hK
  rw [Int.toNat_natCast, List.getD_eq_getElem?_getD, List.getElem?_eq_getElem hi] at h1
  exact ⟨A1, h1⟩
theorem rk6_eq : ∀ (k : Nat) (x0 x5 : List Int) (x6 x7 : Int), Q.virgationref06_Ranks.l0 k x0 x5 x6 x7 = Q.tree_Ranks.l0 k x0 x5 x6 x7
  | 0, _, _, _, _ => rfl
  | k + 1, x0, x5, x6, x7 => by
    simp only [Q.virgationref06_Ranks.l0, Q.tree_Ranks.l0]
    rw [rk6_eq k]
theorem ranks6_ev (l : List Int) (hm : l.length ≤ 9223372036854775807) : Ev (fun k => Q.virgationref06_Ranks.f k l) (ranksB l) :=
  Ev.congr (fun k => rk6_eq k l l (l.length : Int) 0) (ranks_ev l hm)
def rowR (rk : List Int) (n : Int) (row : List (List (List Nd))) : Bool := decide (row.length = rk.length) && allF (fun f => altsB (rd rk (f : Int)) n (row.getD f [])) 0 row.length
def isR (rk : List Int) (st : Int) (M : Mv) : Bool := ranksB rk && decide (1 ≤ M.length) && decide (M.length ≤ 6) && decide (0 ≤ st) && decide (st < (M.length : Int)) && allF (fun q => rowR rk (M.length : Int) (M.getD q [])) 0 M.length
theorem up_len {l : List Nat} {m : Nat} (h : ∀ x ∈ l, x < m) (hu : ∀ i, i + 1 < l.length → l.getD i 0 < l.getD (i + 1) 0) : l.length ≤ m := by
  have key : ∀ i, i < l.length → i ≤ l.getD i 0 := by
    intro i
    induction i with
    | zero => intro _; omega
    | succ i ih =>
      intro hi
      have := ih (by omega)
      have := hu i hi
      omega
  rcases Nat.eq_zero_or_pos l.length with h0 | h0
  · omega
  · have h1 := key (l.length - 1) (by omega)
    have h2 := h _ (getD_memD 0 (show l.length - 1 < l.length by omega))
    omega
theorem alt_short {r n : Int} {l : List Nd} (hr : r ≤ 4) (hn : n ≤ 6) (h1 : l.any (nbad r n) = false) (h2 : upN l = true) : l.length ≤ 24 := by
  have hb : ∀ x ∈ l, 0 ≤ x.f0 ∧ x.f0 < 4 ∧ 0 ≤ x.f1 ∧ x.f1 < 6 := by
    intro x hx
    cases e : nbad r n x with
    | true => rw [List.any_eq_true.2 ⟨x, hx, e⟩] at h1; cases h1
    | false =>
      unfold nbad at e
      simp only [Bool.or_eq_false_iff, decide_eq_false_iff_not] at e
      omega
  have key := up_len (l := l.map fun x => x.f0.toNat * 6 + x.f1.toNat) (m := 24) (by
    intro x hx
    obtain ⟨y, hy, rfl⟩ := List.mem_map.1 hx
    have := hb y hy
    omega) (by
    intro i hi
    rw [List.length_map] at hi
    have h3 := List.all_eq_true.1 h2 i (List.mem_range.2 (by omega))
    have hx := hb _ (getD_memD zN (show i < l.length by omega))
    have hy := hb _ (getD_memD zN hi)
    have e : ∀ j, j < l.length → (l.map fun x : Nd => x.f0.toNat * 6 + x.f1.toNat).getD j 0 = (l.getD j zN).f0.toNat * 6 + (l.getD j zN).f1.toNat := by
      intro j hj
      simp [List.getD_eq_getElem?_getD, hj]
    rw [e i (by omega), e (i + 1) hi]
    simp only [decide_eq_true_eq] at h3
    unfold befI at h3
    split at h3 <;> omega)
  rwa [List.length_map] at key
theorem altB_list {r n : Int} {l : List Nd} (hr : r ≤ 4) (hn : n ≤ 6) : altB r n l = listOk r n l := by
  rw [altB_eq]
  unfold listOk
  cases h1 : l.any (nbad r n) with
  | true => simp
  | false =>
    cases h2 : upN l with
    | false => simp
    | true => rw [decide_eq_true (alt_short hr hn h1 h2)]; rfl
theorem altsB_ok {r n : Int} {l : List (List Nd)} (hr : r ≤ 4) (hn : n ≤ 6) : altsB r n l = altsOk r n l := by
  rw [altsB_eq]
  unfold altsOk
  rw [show altB r n = listOk r n from funext fun x => altB_list hr hn]
theorem isR_eq (rk : List Int) (st : Int) (M : Mv) : isR rk st M = auB rk st M := by
  unfold isR auB
  cases h0 : ranksB rk with
  | false => simp only [Bool.false_and]
  | true =>
    by_cases h2 : M.length ≤ 6
    · have hrk : ∀ f : Nat, f < rk.length → rd rk (f : Int) ≤ 4 := by
        intro f hf
        unfold ranksB at h0
        simp only [Bool.and_eq_true, decide_eq_true_eq, List.all_eq_true] at h0
        rw [rd_at hf]
        exact (h0.1 _ (List.getElem_mem hf)).2
      have hrow : ∀ row, rowR rk (M.length : Int) row = mrowOk rk (M.length : Int) row := by
        intro row
        unfold rowR mrowOk
        by_cases hl : row.length = rk.length
        · rw [decide_eq_true hl, Bool.true_and, Bool.true_and, hl, Bool.eq_iff_iff, allF_iff, List.all_eq_true]
          constructor
          · intro h f hf
            have hf := List.mem_range.1 hf
            have := h f (Nat.zero_le _) (by omega)
            rwa [altsB_ok (hrk f hf) (by omega)] at this
          · intro h f _ hf
            have := h f (List.mem_range.2 (by omega))
            rwa [← altsB_ok (hrk f (by omega)) (by omega)] at this
        · rw [decide_eq_false hl, Bool.false_and, Bool.false_and]
      have e : allF (fun q => rowR rk (M.length : Int) (M.getD q [])) 0 M.length = M.all (mrowOk rk (M.length : Int)) := by
        rw [Bool.eq_iff_iff, allF_iff, List.all_eq_true]
        constructor
        · intro h x hx
          obtain ⟨i, hi, rfl⟩ := List.mem_iff_getElem.1 hx
          have := h i (Nat.zero_le _) (by omega)
          rw [hrow, List.getD_eq_getElem?_getD, List.getElem?_eq_getElem hi] at this
          exact this
        · intro h i _ hi
          rw [hrow]
          exact h _ (getD_memD [] (by omega))
      rw [e]
    · rw [decide_eq_false h2]; simp
end Go.Proofs.YtbmcigakiibncaaGreatDoor.H
