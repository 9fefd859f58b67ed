/- What schemeReach_calls, handed_and_shaped, own, laidOut, laid7, mx_of_shaped, arg_scheme needs, out of my texts, by a program (slim.py). -/
import Derived.Test.YthflpbgloeimfaaGreatDoorSR2
namespace Go.Proofs.YthflpbgloeimfaaGreatDoor.H
open Go.RowKit Go.Proofs.YthflpbgloeimfaaGreatDoorW.PrintWords Go.Proofs.YthflpbgloeimfaaGreatDoorW.PrintLast Go.Proofs.YthflpbgloeimfaaGreatDoorW.PrintMore
open Go.Proofs.YthflpbgloeimfaaGreatDoor.Q (S47 k47 rd_T47 z47 at_T47 S50 k50 rd_T50 z50 at_T50 S52 k52 rd_T52 at_T52 z52 S71 k71 rd_T71 at_T71)
set_option linter.unusedVariables false
set_option linter.unusedSimpArgs false
theorem run_mkfunZ (fn : Fn) (first cap : Array Value) (w : World) : (Instr.makeFunc fn first cap).run Tryz.prog w = .ok (.func fn first cap) w := rfl
structure RS (W3 : World) (mb : Nat) (x y : Value) : Prop where
  hp : W3.heap[mb + 1]? = some (.cells #[.map (some mb)] 121 (0, 0))
  h6 : W3.heap[mb + 1 + 1]? = some (.cells #[x] 122 (0, 0))
  h7 : W3.heap[mb + 1 + 1 + 1]? = some (.cells #[y] 123 (0, 0))
  hm : MapIs W3 mb (Value.int .i64) Value.bool wf64 (truI [])
  hn : BornOk W3 mb
theorem RS.start (W2 : World) : RS ((((W2.alloc (.map #[] 0)).alloc (.cells #[.map (some W2.heap.size)] 121)).alloc (.cells #[.nilFunc] 122)).alloc (.cells #[.nilFunc] 123)) W2.heap.size .nilFunc .nilFunc := by
  have s1 : (W2.alloc (.map #[] 0)).heap.size = W2.heap.size + 1 := by simp
  have h1 := blk_new (W2.alloc (.map #[] 0)) (.cells #[.map (some W2.heap.size)] 121)
  rw [s1] at h1
  have s2 : ((W2.alloc (.map #[] 0)).alloc (.cells #[.map (some W2.heap.size)] 121)).heap.size = W2.heap.size + 1 + 1 := by simp
  have h2 := blk_new ((W2.alloc (.map #[] 0)).alloc (.cells #[.map (some W2.heap.size)] 121)) (.cells #[.nilFunc] 122)
  rw [s2] at h2
  have s3 : (((W2.alloc (.map #[] 0)).alloc (.cells #[.map (some W2.heap.size)] 121)).alloc (.cells #[.nilFunc] 122)).heap.size = W2.heap.size + 1 + 1 + 1 := by simp
  have h3 := blk_new (((W2.alloc (.map #[] 0)).alloc (.cells #[.map (some W2.heap.size)] 121)).alloc (.cells #[.nilFunc] 122)) (.cells #[.nilFunc] 123)
  rw [s3] at h3
  exact ⟨blk_alloc (blk_alloc h1 _) _, blk_alloc h2 _, h3, (((mapIs_new W2 (Value.int .i64) Value.bool wf64).below (below_alloc (Below.refl _ _) _)).below (below_alloc (Below.refl _ _) _)).below (below_alloc (Below.refl _ _) _), (((BornOk.new W2).below (below_alloc (Below.refl _ _) _)).below (below_alloc (Below.refl _ _) _)).below (below_alloc (Below.refl _ _) _)⟩
theorem RS.set7 {W3 : World} {mb : Nat} {x y : Value} (h : RS W3 mb x y) (u : Value) : RS (W3.setCell ⟨mb + 1 + 1 + 1, 0, none⟩ u) mb x u :=
  ⟨blk_far h.hp (by show mb + 1 ≠ mb + 1 + 1 + 1; omega) _, blk_far h.h6 (by show mb + 1 + 1 ≠ mb + 1 + 1 + 1; omega) _, blk_set h.h7 0 u, h.hm.far (by show mb ≠ mb + 1 + 1 + 1; omega) _, h.hn.kept (Below.heap_setCell W3 ⟨mb + 1 + 1 + 1, 0, none⟩ u mb (by show mb ≠ mb + 1 + 1 + 1; omega))⟩
theorem RS.set6 {W3 : World} {mb : Nat} {x y : Value} (h : RS W3 mb x y) (u : Value) : RS (W3.setCell ⟨mb + 1 + 1, 0, none⟩ u) mb u y :=
  ⟨blk_far h.hp (by show mb + 1 ≠ mb + 1 + 1; omega) _, blk_set h.h6 0 u, blk_far h.h7 (by show mb + 1 + 1 + 1 ≠ mb + 1 + 1; omega) _, h.hm.far (by show mb ≠ mb + 1 + 1; omega) _, h.hn.kept (Below.heap_setCell W3 ⟨mb + 1 + 1, 0, none⟩ u mb (by show mb ≠ mb + 1 + 1; omega))⟩
theorem key_inj : ∀ {l : List MapEntry}, (l.map (·.key)).Nodup → ∀ {x e : MapEntry}, x ∈ l → e ∈ l → x.key = e.key → x = e
  | [], _, x, e, hx, _, _ => by cases hx
  | a :: r, hn, x, e, hx, he, hk => by
    rw [List.map_cons, List.nodup_cons] at hn
    rcases List.mem_cons.1 hx with h1 | h1
    · rcases List.mem_cons.1 he with h2 | h2
      · rw [h1, h2]
      · exact absurd (List.mem_map.2 ⟨e, h2, by rw [← hk, h1]⟩) hn.1
    · rcases List.mem_cons.1 he with h2 | h2
      · exact absurd (List.mem_map.2 ⟨x, h1, by rw [hk, h2]⟩) hn.1
      · exact key_inj hn.2 h1 h2 hk
structure IT (ms : Array MapEntry) (seen : Array Nat) (acc : List Int) : Prop where
  nd : acc.Nodup
  to_ : ∀ x ∈ acc, ∃ e ∈ ms.toList, e.key = .int .i64 x ∧ seen.contains e.born = true
  of_ : ∀ e ∈ ms.toList, seen.contains e.born = true → ∃ x ∈ acc, e.key = .int .i64 x
theorem IT.start (ms : Array MapEntry) : IT ms #[] [] := ⟨List.nodup_nil, fun x hx => (by cases hx), fun e _ h => by simp at h⟩
theorem IT.push {ms : Array MapEntry} {seen : Array Nat} {acc : List Int} {e : MapEntry} {x : Int} (h : IT ms seen acc) (hk : (ms.toList.map (·.key)).Nodup) (hb : (ms.toList.map (·.born)).Nodup) (he : e ∈ (leftOf ms seen).toList) (hx : e.key = .int .i64 x) : IT ms (seen.push e.born) (acc ++ [x]) := by
  obtain ⟨he1, he2⟩ := mem_left he
  have hcp : ∀ y, (seen.push e.born).contains y = (seen.contains y || y == e.born) := fun y => contains_push seen e.born y
  refine ⟨List.nodup_append.2 ⟨h.nd, by simp, fun a ha b hb2 => ?_⟩, fun y hy => ?_, fun q hq hc => ?_⟩
  · rw [List.mem_singleton.1 hb2]
    rintro rfl
    obtain ⟨q, hq1, hq2, hq3⟩ := h.to_ a ha
    rw [key_inj hk hq1 he1 (hq2.trans hx.symm)] at hq3
    rw [he2] at hq3
    cases hq3
  · rcases List.mem_append.1 hy with hy | hy
    · obtain ⟨q, hq1, hq2, hq3⟩ := h.to_ y hy
      exact ⟨q, hq1, hq2, by rw [hcp, hq3]; rfl⟩
    · rw [List.mem_singleton.1 hy]
      exact ⟨e, he1, hx, by rw [hcp]; simp⟩
  · rw [hcp, Bool.or_eq_true] at hc
    rcases hc with hc | hc
    · obtain ⟨y, hy1, hy2⟩ := h.of_ q hq hc
      exact ⟨y, List.mem_append_left _ hy1, hy2⟩
    · rw [born_inj hb hq he1 (by simpa using hc)]
      exact ⟨x, by simp, hx⟩
theorem IT.done {ms : Array MapEntry} {seen : Array Nat} {acc M : List Int} (h : IT ms seen acc) (hk : ms.toList.map (·.key) = M.map (Value.int .i64)) (hl : (leftOf ms seen).size = 0) : ∀ k, k ∈ acc ↔ k ∈ M := by
  intro k
  constructor
  · intro hk1
    obtain ⟨e, he1, he2, _⟩ := h.to_ k hk1
    have : e.key ∈ M.map (Value.int .i64) := hk ▸ List.mem_map.2 ⟨e, he1, rfl⟩
    obtain ⟨y, hy, e2⟩ := List.mem_map.1 this
    rw [he2] at e2
    injection e2 with _ e3
    rwa [← e3]
  · intro hk1
    have : Value.int .i64 k ∈ ms.toList.map (·.key) := hk ▸ List.mem_map.2 ⟨k, hk1, rfl⟩
    obtain ⟨e, he1, he2⟩ := List.mem_map.1 this
    obtain ⟨y, hy, e2⟩ := h.of_ e he1 (all_seen ms seen hl e he1)
    rw [he2] at e2
    injection e2 with _ e3
    rwa [e3]
theorem isR_acc {fs : List S52} {M acc : List Int} (h : DFS fs [] M) (h0 : (0 : Int) ∈ M) (hn : acc.Nodup) (hm : ∀ k, k ∈ acc ↔ k ∈ M) : IsR fs (acc.mergeSort fun x y => decide (x ≤ y)) := by
  have hp := List.mergeSort_perm acc (fun x y => decide (x ≤ y))
  have hs : (acc.mergeSort fun x y => decide (x ≤ y)).Pairwise fun a b => decide (a ≤ b) = true :=
    List.pairwise_mergeSort (le := fun x y => decide (x ≤ y)) (fun a b c h1 h2 => by simp only [decide_eq_true_eq] at h1 h2 ⊢; omega) (fun a b => by simp only [Bool.or_eq_true, decide_eq_true_eq]; omega) acc
  have hd : (acc.mergeSort fun x y => decide (x ≤ y)).Nodup := hp.nodup_iff.2 hn
  refine ⟨(hs.and hd).imp fun {a b} h => ?_, fun k => ?_⟩
  · have h1 := of_decide_eq_true h.1
    have h2 := h.2
    omega
  · rw [hp.mem_iff, hm]
    refine ⟨h.ok k, ?_⟩
    rintro ⟨j, rfl, _, hr⟩
    exact h.all h0 j hr
theorem sortI_calls (g c : Nat) (xs : List Int) (w : World) (hC : Kd.C (Kd.int .i64) w (some ⟨g, 0, none⟩) xs.length xs) (hT : ∃ cells, w.heap[g]? = some (.cells cells 3 (0, 0))) (hl : xs.length ≤ 1000) :
    Calls Tryz.prog 82 #[.slice (some ⟨g, 0, none⟩) xs.length c] w fun e w' => e = .returned (.tuple #[]) ∧ w.grownBy w' (some g) ∧ Kd.C (Kd.int .i64) w' (some ⟨g, 0, none⟩) xs.length (xs.mergeSort fun x y => decide (x ≤ y)) := by
  obtain ⟨cells, hT⟩ := hT
  have hH : Go.Sort.Holds (Value.int .i64) w g 0 xs.toArray := by
    intro j hj
    have hj' : j < xs.length := by simpa using hj
    have h1 := Kd.foot_int hC (j : Int) (by omega) (by omega)
    rw [Int.toNat_natCast] at h1
    have h2 : Addr.add ⟨g, 0, none⟩ j = ⟨g, 0 + j, none⟩ := Addr.add_mid g 0 j
    rw [h2] at h1
    refine ⟨h1.trans ?_, by simp [World.frozen?, hT]⟩
    simp [rd, hj']
  refine (Tryz.slices_Sort_int g 0 c xs w hH (blk_lt hT) (by omega)).mono ?_
  rintro E w' ⟨rfl, n, os, rfl⟩
  refine ⟨rfl, grownBy_sortedI _, ?_⟩
  have hlen : (xs.mergeSort fun x y => decide (x ≤ y)).length = xs.length := List.length_mergeSort xs
  have hsz : xs.length ≤ cells.size := by
    by_cases h : xs.length ≤ cells.size
    · exact h
    · exfalso
      have h1 := (hH cells.size (by simpa using (show cells.size < xs.length by omega))).1
      rw [Nat.zero_add, blk_cell hT] at h1
      simp at h1
  have hG := heap_sortedI (n := n) (os := os) (xs.mergeSort fun x y => decide (x ≤ y)).toArray hT
  have hTk := take_putCellsI cells (xs.mergeSort fun x y => decide (x ≤ y)) (by rw [hlen]; exact hsz)
  refine ⟨hlen, hC.2.1, fun h0 => ⟨⟨g, 0, none⟩, rfl, fun j p hj => ⟨[.int .i64 p], rfl, rfl, fun i u hu => ?_⟩⟩⟩
  have hj' : j < (xs.mergeSort fun x y => decide (x ≤ y)).length := (List.getElem?_eq_some_iff.1 hj).1
  cases i with
  | succ i => simp at hu
  | zero =>
    have hu' : Value.int .i64 p = u := by simpa using hu
    rw [← hu']
    have h2 : Addr.add ⟨g, 0, none⟩ (j * (Kd.int .i64).sz + 0) = ⟨g, 0 + j, none⟩ := by
      rw [show j * (Kd.int .i64).sz + 0 = j from by show j * 1 + 0 = j; omega]
      exact Addr.add_mid g 0 j
    rw [h2, Nat.zero_add, blk_cell hG]
    have h4 := congrArg (fun l => l[j]?) hTk
    simp only [List.getElem?_take_of_lt hj', Array.getElem?_toList, List.getElem?_map, hj, Option.map_some] at h4
    exact h4
theorem R_formZ {α : Type} {d : Kd α} {e base n c : Nat} {ok : Nat → Prop} {w : World} {ad : Addr} {xs : List α} (h : d.R e w base ok (.slice (some ad) n c) xs) : ∃ g, ad = ⟨g, 0, none⟩ := by
  obtain ⟨_, inner, ho, _⟩ := h
  rcases ho.2 with ⟨hv, _⟩ | ⟨g, cap, cur, hv, _⟩
  · cases hv
  · injection hv with ha _ _
    injection ha with ha
    exact ⟨g, ha⟩
structure RI (w wi : World) (mb r : Nat) (ms : Array MapEntry) (ck : Nat) (seen : Array Nat) (acc : List Int) (A : Option Addr) (c : Nat) : Prop where
  hb : Below w.heap.size w wi
  hmap : wi.heap[mb]? = some (.map ms ck)
  hit : wi.heap[r]? = some (.mapIter (some mb) ck seen ck)
  row : Kd.R (Kd.int .i64) 3 wi w.heap.size (fun k => r < k) (.slice A acc.length c) acc
  lt : w.heap.size < mb ∧ mb < r
section
variable {w wi w1 : World} {mb r ck : Nat} {ms : Array MapEntry} {seen : Array Nat} {acc : List Int} {A : Option Addr} {c : Nat}
theorem blk_sz {w : World} {k : Nat} {o : Obj} (h : w.heap[k]? = some o) : k < w.heap.size := (Array.getElem?_eq_some_iff.1 h).1
theorem grown_setBlock (w : World) (r : Nat) (o : Obj) : w.grownBy (Go.ChangeMaps.setBlock w r o) (some r) := ⟨rfl, rfl, rfl, by simp [Go.ChangeMaps.setBlock], fun i hi hne => by
    have hne' : r ≠ i := fun e => hne (by rw [e])
    simp [Go.ChangeMaps.setBlock, hne']⟩
theorem RI.next (h : RI w wi mb r ms ck seen acc A c) (hal : w1 = wi ∨ w1 = wi.drew) (b : Nat) : RI w (Go.ChangeMaps.setBlock w1 r (.mapIter (some mb) ck (seen.push b) ck)) mb r ms ck (seen.push b) acc A c := by
  have h1 : RI w w1 mb r ms ck seen acc A c := by
    rcases hal with rfl | rfl
    · exact h
    · exact ⟨below_drew h.hb, h.hmap, h.hit, Kd.R_below h.row (below_drew (Below.refl _ _)), h.lt⟩
  have hg := grown_setBlock w1 r (.mapIter (some mb) ck (seen.push b) ck)
  have hl := h1.lt
  refine ⟨pw_below_grown h1.hb _ h1.hb.size hg (fun k hk => by cases hk; omega), (hg.block mb (blk_sz h1.hmap) (fun e => by have := Option.some.inj e; omega)).trans h1.hmap, ?_, ?_, hl⟩
  · have := blk_sz h1.hit
    simp [Go.ChangeMaps.setBlock, this]
  · exact Kd.R_mono (Kd.R_step (Kd.R_bound h1.row) (fun k hk hlt => hg.block k hlt (fun e => by have := Option.some.inj e; have := hk.1; omega))) (fun k hk => hk.1)
theorem RI.push {x : Int} {A2 : Option Addr} {c2 : Nat} (h : RI w wi mb r ms ck seen acc A c) (ho : Kd.R (Kd.int .i64) 3 w1 w.heap.size (fun k => r < k) (.slice A2 (acc ++ [x]).length c2) (acc ++ [x])) (hb : Below w.heap.size w w1) (hg : wi.grownBy w1 (Value.slice A acc.length c).ownBlock) : RI w w1 mb r ms ck seen (acc ++ [x]) A2 c2 := by
  have hr : ∀ k, (Value.slice A acc.length c).ownBlock = some k → r < k := h.row.1
  have hl := h.lt
  exact ⟨hb, (hg.block mb (blk_sz h.hmap) (fun e => by have := hr _ e.symm; omega)).trans h.hmap, (hg.block r (blk_sz h.hit) (fun e => by have := hr _ e.symm; omega)).trans h.hit, ho, hl⟩
end
def ReQ (sy : List S71) (fs : List S52) (w : World) (E : Ending) (w' : World) : Prop :=
  Below w.heap.size w w' ∧ (schB sy fs = false ∧ E = .returned (.tuple #[.slice none 0 0, .int .i64 7]) ∨ schB sy fs = true ∧ ∃ (l : List Int) (A : Option Addr) (c : Nat), IsR fs l ∧ E = .returned (.tuple #[.slice A l.length c, .int .i64 0]) ∧ l.length ≤ c ∧ Kd.C (Kd.int .i64) w' A l.length l)
set_option maxHeartbeats 8000000 in
set_option maxRecDepth 100000 in
theorem sreach_calls (sy : List S71) (fs : List S52) (A1 A2 : Option Addr) (c1 c2 : Nat) (w : World) (hS : Kd.C k71 w A1 sy.length sy) (hF : Kd.C k52 w A2 fs.length fs) :
    Calls Tryz.prog 31 #[.agg #[.slice A1 sy.length c1, .slice A2 fs.length c2]] w (ReQ sy fs w) := by
  have hmm := @run_makeMap Tryz.prog
  have hmf := run_mkfunZ
  have HF := Aside0.mk hF
  have H1 := Aside0.mk fun W (hW : Below w.heap.size w W) => scheme_calls sy fs A1 A2 c1 c2 W (Kd.C_below hS hW) (Kd.C_below hF hW)
  have HB := Aside0.mk (CB.mk (below_alloc (Below.refl w.heap.size w) (.cells #[.slice A1 sy.length c1, .slice A2 fs.length c2] 25)) (blk_new w (.cells #[.slice A1 sy.length c1, .slice A2 fs.length c2] 25)))
  clear hS hF
  go_enter Tryz.func31, Tryz.ntmps31
  go_upto_region 1 with (fail)
  generalize w.alloc (.cells #[.slice A1 sy.length c1, .slice A2 fs.length c2] 25) = W1 at *
  obtain ⟨k0, k1⟩ := (HB.out).cells
  cases qv : schB sy fs with
  | false =>
    have HQ := Aside0.mk qv
    rw [schV_bad qv] at H1
    clear qv
    go_wp2_with fail
    refine (H1.out _ (HB.out).hb).mono ?_
    rintro E W2 ⟨rfl, hb⟩
    have HB2 := Aside0.mk ((HB.out).below hb)
    clear hb HB k0 k1
    go_wp2
    go_ret2
    exact ⟨(HB2.out).hb, .inl ⟨HQ.out, rfl⟩⟩
  | true =>
  have HQ := Aside0.mk qv
  rw [schV_good qv] at H1
  clear qv
  go_wp2_with fail
  refine (H1.out _ (HB.out).hb).mono ?_
  rintro E W2 ⟨rfl, hb⟩
  have HB2 := Aside0.mk ((HB.out).below hb)
  clear hb HB k0 k1
  go_upto_region 7 with (fail)
  have HN := Aside0.mk (show fs.length ≤ 64 ∧ 1 ≤ fs.length from ⟨(schB_seven HQ.out).2.2.1, (schB_seven HQ.out).2.1⟩)
  have HTN := Aside0.mk (show ∀ f ∈ fs, tN f.f2 ≤ 400 from fun f hf => (bodyOk_parts ((schB_seven HQ.out).2.2.2.2.2.2 f hf)).1)
  have HLT := Aside0.mk (show w.heap.size < W2.heap.size from blk_lt (HB2.out).h0)
  have HS := Aside0.mk (RS.start W2)
  have HBB := Aside0.mk (show Below w.heap.size w ((((W2.alloc (.map #[] 0)).alloc (.cells #[.map (some W2.heap.size)] 121)).alloc (.cells #[.nilFunc] 122)).alloc (.cells #[.nilFunc] 123)) from below_alloc (below_alloc (below_alloc (below_alloc (HB2.out).hb _) _) _) _)
  have HS0 := Aside0.mk (blk_alloc (blk_alloc (blk_alloc (blk_alloc (HB2.out).h0 (.map #[] 0)) (.cells #[.map (some W2.heap.size)] 121)) (.cells #[.nilFunc] 122)) (.cells #[.nilFunc] 123))
  clear HB2 H1
  generalize ((((W2.alloc (.map #[] 0)).alloc (.cells #[.map (some W2.heap.size)] 121)).alloc (.cells #[.nilFunc] 122)).alloc (.cells #[.nilFunc] 123)) = W3 at *
  generalize W2.heap.size = mb at *
  have a7 : W3.cell? ⟨mb + 1 + 1 + 1, 0, none⟩ = some .nilFunc := (blk_cell (HS.out).h7 0).trans rfl
  have f7 : W3.frozen? ⟨mb + 1 + 1 + 1, 0, none⟩ = false := blk_frozen (HS.out).h7 0
  go_upto_region 8 with (fail)
  have HS2 := Aside0.mk ((HS.out).set7 (.func (.func 80) #[] #[.pointer (some ⟨mb + 1 + 1, 0, none⟩), .pointer (some ⟨mb + 1 + 1 + 1, 0, none⟩)]))
  have HBB2 := Aside0.mk ((HBB.out).setCell (p := ⟨mb + 1 + 1 + 1, 0, none⟩) (by have := HLT.out; show w.heap.size ≤ mb + 1 + 1 + 1; omega) (.func (.func 80) #[] #[.pointer (some ⟨mb + 1 + 1, 0, none⟩), .pointer (some ⟨mb + 1 + 1 + 1, 0, none⟩)]))
  have HS02 := Aside0.mk (blk_far HS0.out (p := ⟨mb + 1 + 1 + 1, 0, none⟩) (by have := HLT.out; show w.heap.size ≠ mb + 1 + 1 + 1; omega) (.func (.func 80) #[] #[.pointer (some ⟨mb + 1 + 1, 0, none⟩), .pointer (some ⟨mb + 1 + 1 + 1, 0, none⟩)]))
  clear a7 f7 HS HBB HS0
  generalize (W3.setCell ⟨mb + 1 + 1 + 1, 0, none⟩ (.func (.func 80) #[] #[.pointer (some ⟨mb + 1 + 1, 0, none⟩), .pointer (some ⟨mb + 1 + 1 + 1, 0, none⟩)])) = W4 at *
  have a6 : W4.cell? ⟨mb + 1 + 1, 0, none⟩ = some .nilFunc := (blk_cell (HS2.out).h6 0).trans rfl
  have f6 : W4.frozen? ⟨mb + 1 + 1, 0, none⟩ = false := blk_frozen (HS2.out).h6 0
  go_upto_region 9 with (fail)
  have HS3 := Aside0.mk ((HS2.out).set6 (.func (.func 81) #[] #[.pointer (some ⟨mb + 1, 0, none⟩), .pointer (some ⟨mb + 1 + 1 + 1, 0, none⟩), .pointer (some ⟨w.heap.size, 0, none⟩)]))
  have HBB3 := Aside0.mk ((HBB2.out).setCell (p := ⟨mb + 1 + 1, 0, none⟩) (by have := HLT.out; show w.heap.size ≤ mb + 1 + 1; omega) (.func (.func 81) #[] #[.pointer (some ⟨mb + 1, 0, none⟩), .pointer (some ⟨mb + 1 + 1 + 1, 0, none⟩), .pointer (some ⟨w.heap.size, 0, none⟩)]))
  have HS03 := Aside0.mk (blk_far HS02.out (p := ⟨mb + 1 + 1, 0, none⟩) (by have := HLT.out; show w.heap.size ≠ mb + 1 + 1; omega) (.func (.func 81) #[] #[.pointer (some ⟨mb + 1, 0, none⟩), .pointer (some ⟨mb + 1 + 1 + 1, 0, none⟩), .pointer (some ⟨w.heap.size, 0, none⟩)]))
  clear a6 f6 HS2 HBB2 HS02
  generalize (W4.setCell ⟨mb + 1 + 1, 0, none⟩ (.func (.func 81) #[] #[.pointer (some ⟨mb + 1, 0, none⟩), .pointer (some ⟨mb + 1 + 1 + 1, 0, none⟩), .pointer (some ⟨w.heap.size, 0, none⟩)])) = W5 at *
  have HRF := Aside0.mk (show RF w W5 mb (.slice A1 sy.length c1) (.slice A2 fs.length c2) [] from ⟨HBB3.out, HS03.out, (HS3.out).hp, (HS3.out).h6, (HS3.out).h7, (HS3.out).hm, (HS3.out).hn, HLT.out⟩)
  have a6 : W5.cell? ⟨mb + 1 + 1, 0, none⟩ = some (.func (.func 81) #[] #[.pointer (some ⟨mb + 1, 0, none⟩), .pointer (some ⟨mb + 3, 0, none⟩), .pointer (some ⟨w.heap.size, 0, none⟩)]) := (blk_cell (HS3.out).h6 0).trans rfl
  have HC := Aside0.mk (meet_all (mb := mb) (s1 := .slice A1 sy.length c1) (c2 := c2) HF.out HTN.out (schB_calls HQ.out) (by have := HN.out; omega) fs.length 0 [] W5 HRF.out (fun x hx => by cases hx) (by simp) ⟨0, rfl, by have := HN.out; omega, Rch.start⟩)
  unfold pB MtQ at HC
  clear HS3 HBB3 HS03
  go_wp2_with fail
  refine (HC.out).mono ?_
  rintro E W6 ⟨rfl, hkr, M, hF6, hD6, h06⟩
  have HRF6 := Aside0.mk hF6
  have HD6 := Aside0.mk (And.intro hD6 (h06 0 rfl))
  obtain ⟨ms, ck, hbm, hbn, hbc⟩ := hF6.hn
  have HKM := Aside0.mk (show ms.toList.map (·.key) = M.map (Value.int .i64) from by
    obtain ⟨⟨ms2, ck2, h2, h3⟩, _⟩ := hF6.hm
    rw [hbm] at h2
    cases h2
    have := congrArg (List.map Prod.fst) h3
    rw [List.map_map] at this
    simpa [entsOf, truI, Function.comp_def] using this)
  have HBN := Aside0.mk (And.intro hbn hbc)
  have hrg := run_range_map (P := Tryz.prog) W6 121 3 4 mb ms ck Tryz.underlying121 hbm
  have a5 : W6.cell? ⟨mb + 1, 0, none⟩ = some (.map (some mb)) := (blk_cell hF6.hp 0).trans rfl
  have HBM := Aside0.mk hbm
  clear hkr hF6 hD6 h06 hbn hbc a6 HC HRF
  go_upto_block 0 with (fail)
  have HM64 := Aside0.mk (show ms.size ≤ 64 from by
    have h1 := congrArg List.length HKM.out
    rw [List.length_map, List.length_map] at h1
    have h2 := nodup_bound 64 M (HRF6.out).nodup (fun x hx => by obtain ⟨j, rfl, hj, _⟩ := (HD6.out).1.ok x hx; have := HN.out; omega)
    have h3 : ms.toList.length = ms.size := Array.length_toList
    omega)
  have HRI := Aside0.mk (show RI w (W6.alloc (.mapIter (some mb) ck #[] ck)) mb W6.heap.size ms ck #[] [] none 0 from
    ⟨below_alloc (HRF6.out).hb _, blk_alloc HBM.out _, blk_new W6 _, Kd.R_nil _ _ _ _ _, HLT.out, blk_sz HBM.out⟩)
  clear hrg a5 hbm hmm hmf
  generalize (W6.alloc (.mapIter (some mb) ck #[] ck)) = W7 at *
  generalize W6.heap.size = r at *
  have hlf : (leftOf ms #[]).size ≤ ms.size := by unfold leftOf; exact Array.size_filter_le
  have HLF := Aside0.mk (show ([] : List Int).length + (leftOf ms #[]).size ≤ 64 from by have := HM64.out; rw [List.length_nil]; omega)
  clear hlf
  go_wp2
  go_loopg [8] (leftOf ms #[]).size (fun gg v8 wi => ∃ (seen : Array Nat) (acc : List Int) (A : Option Addr) (c : Nat), (leftOf ms seen).size ≤ gg ∧ v8 = .slice A acc.length c ∧ Aside0 (IT ms seen acc) ∧ Aside0 (RI w wi mb r ms ck seen acc A c) ∧ Aside0 (acc.length + (leftOf ms seen).size ≤ 64))
  case atStart => exact ⟨#[], [], none, 0, Nat.le_refl _, rfl, ⟨IT.start ms⟩, HRI, HLF⟩
  case round =>
    clear HRI HLF
    obtain ⟨seen, acc, A, c, hgg, rfl, HT, HI, HL⟩ := hrel
    rcases run_next_at (P := Tryz.prog) wr 0 r mb ck ck seen ms ck (HI.out).hit (HI.out).hmap (HBN.out).2 (Nat.le_refl _) with ⟨hl0, hnx⟩ | ⟨e, he, w1, hal, hnx⟩
    · have HL0 := Aside0.mk ((HT.out).done HKM.out hl0)
      have hne : 0 < acc.length := List.length_pos_of_mem (((HL0.out) 0).2 (HD6.out).2)
      have hrd := Kd.R_reads' (HI.out).row
      obtain ⟨ad, eA, _⟩ := hrd.2.2.2.2 hne
      subst eA
      obtain ⟨g, rfl⟩ := R_formZ (HI.out).row
      have HG := Aside0.mk ((HI.out).row.1 g rfl)
      have HC := Aside0.mk (sortI_calls g c acc wr hrd.2.2 (Kd.R_typed (HI.out).row g rfl) (by have := HL.out; omega))
      have HLC := Aside0.mk hrd.2.1
      have HR := Aside0.mk (isR_acc (HD6.out).1 (HD6.out).2 (HT.out).nd HL0.out)
      clear hl0 hgg hrd hne
      go_upto_region 15 with (fail)
      clear hnx
      go_wp2_with fail
      refine (HC.out).mono ?_
      rintro E w8 ⟨rfl, hg8, hC8⟩
      have HB8 := Aside0.mk (pw_below_grown (HI.out).hb _ (HI.out).hb.size hg8 (fun k hk => by cases hk; have := HG.out; have := (HI.out).lt; omega))
      have HC8 := Aside0.mk hC8
      have HLM := Aside0.mk (List.length_mergeSort (le := fun x y => decide (x ≤ y)) acc)
      clear hg8 hC8 HC
      go_wp2
      go_ret2
      refine ⟨HB8.out, .inr ⟨HQ.out, _, some ⟨g, 0, none⟩, c, HR.out, ?_, ?_, ?_⟩⟩
      · rw [HLM.out]; rfl
      · rw [HLM.out]; exact HLC.out
      · rw [HLM.out]; exact HC8.out
    · have he1 := (mem_left he).1
      obtain ⟨x, hxM, hx⟩ : ∃ x ∈ M, Value.int .i64 x = e.key := List.mem_map.1 (HKM.out ▸ List.mem_map.2 ⟨e, he1, rfl⟩)
      have hkn : (ms.toList.map (·.key)).Nodup := by
        rw [HKM.out]
        exact List.pairwise_map.2 ((HRF6.out).nodup.imp (fun {a b} hne h => hne (by injection h)))
      have HT2 := Aside0.mk ((HT.out).push hkn (HBN.out).1 he hx.symm)
      have HI2 := Aside0.mk ((HI.out).next hal e.born)
      have hen := run_entry_at (P := Tryz.prog) (Go.ChangeMaps.setBlock w1 r (.mapIter (some mb) ck (seen.push e.born) ck)) r mb ck seen ms ck e (HI2.out).hit (HI2.out).hmap he1 (HBN.out).1
      have hsh := left_shrinks ms seen e he
      have HSH := Aside0.mk hsh
      rw [← hx] at hnx hen
      have HSZ := Aside0.mk (show r < (Go.ChangeMaps.setBlock w1 r (.mapIter (some mb) ck (seen.push e.born) ck)).heap.size from blk_sz (HI2.out).hit)
      clear he hal hx hxM hkn he1
      go_upto_if 23 with (fail)
      clear hnx
      generalize Go.ChangeMaps.setBlock w1 r (.mapIter (some mb) ck (seen.push e.born) ck) = w2 at *
      generalize seen.push e.born = seen2 at *
      have HLB := Aside0.mk (show (acc.length + 1) * 8 ≤ 140737488355328 by have := HL.out; omega)
      go_wp2_with ((with_reducible refine gate_builtin (b := .append) (xs := #[.tmp 26, .tmp 28]) rfl ?_); at_builtin; refine Kd.R_append (Kd.int .i64) (w0 := w) w.heap.size rfl (.tmp 26) (.tmp 28) 39 3 (.int .i64 0) 8 rfl Tryz.underlying39 info3 rfl (by decide) (by decide) (.slice A acc.length c) acc x [.int .i64 x] (fun k => r < k) (fun _ => False) rfl rfl rfl (fun _ hk => hk.elim) (fun k hk => Nat.lt_of_lt_of_le HSZ.out hk) (HI2.out).row (HI2.out).hb (HI2.out).hb.size HLB.out ?_; intro v5 w6 ho5 hb5 hg5 hat5; (obtain ⟨A9, c9, rfl⟩ := Kd.R_slice ho5); have HI3 := Aside0.mk ((HI2.out).push ho5 hb5 hg5); clear ho5 hb5 hg5 hat5)
      go_roundg (leftOf ms seen2).size
      case measure => have := HSH.out; omega
      case rel => exact ⟨seen2, acc ++ [x], A9, c9, Nat.le_refl _, by first | rfl | rw [List.length_append, List.length_singleton], HT2, HI3, ⟨by have h1 := HSH.out; have h2 := HL.out; rw [List.length_append, List.length_singleton]; omega⟩⟩
end Go.Proofs.YthflpbgloeimfaaGreatDoor.H
namespace Go.Proofs.YthflpbgloeimfaaGreatDoor.H
open Go.RowKit Go.Proofs.YthflpbgloeimfaaGreatDoorW.PrintWords Go.Proofs.YthflpbgloeimfaaGreatDoorW.PrintLast Go.Proofs.YthflpbgloeimfaaGreatDoorW.PrintMore
open Go.Proofs.YthflpbgloeimfaaGreatDoor.Q (S47 k47 rd_T47 z47 at_T47 S50 k50 rd_T50 z50 at_T50 S52 k52 rd_T52 at_T52 z52 S71 k71 rd_T71 at_T71)
set_option linter.unusedVariables false
set_option linter.unusedSimpArgs false
theorem calls_ev (n : Int) (N : Nat) : ∀ t : S50, tN t ≤ N → N ≤ 1000000 → Ev (fun k => Q.virgationref03_calls.f k t.f0 t.f1 t.f2 n) (tC n t) := by
  induction N with
  | zero => intro t h; have := tN_pos t; omega
  | succ N ih =>
    intro t h hN
    obtain ⟨a, m, l⟩ := t
    rw [tN] at h
    have hll := tLen_le (l := l)
    rw [tC]
    have loop : ∀ d j : Nat, l.length - j = d → j ≤ l.length → Ev (fun k => Q.virgationref03_calls.l0 k n l (l.length : Int) (j : Int)) (tCL n (l.drop j)) := by
      intro d
      induction d with
      | zero =>
        intro j hd hj
        refine ev_end fun k => ?_
        simp only [Q.virgationref03_calls.l0]
        rw [if_neg (by omega), List.drop_eq_nil_of_le (by omega), tCL]
      | succ d ihd =>
        intro j hd hj
        have hlt : j < l.length := by omega
        rw [dropS hlt, tCL]
        have e1 := ih l[j] (by have := tN_mem (List.getElem_mem hlt); omega) (by omega)
        have e2 := ihd (j + 1) (by omega) (by omega)
        rw [show ((j + 1 : Nat) : Int) = wrap64 ((j : Int) + 1) from (wrap_succ (i := (j : Int)) (by omega) (by omega)).symm] at e2
        refine ev_next (Ev.bind (f := fun k t => if t = true then some true else Q.virgationref03_calls.l0 k n l (l.length : Int) (wrap64 ((j : Int) + 1))) e1 ?_) fun k => ?_
        · cases tC n l[j] with
          | false => simpa using e2
          | true => simpa using Ev.now true
        · simp only [Q.virgationref03_calls.l0]
          rw [if_pos (by omega), if_pos (by omega), if_pos (by omega), rdT_at hlt]
    have e := loop l.length 0 (by omega) (by omega)
    rw [List.drop_zero] at e
    have ef := ev_next (g := fun k => Q.virgationref03_calls.j0 k n false a m l) e fun k => by simp only [Q.virgationref03_calls.j0]; rfl
    have et : Ev (fun k => Q.virgationref03_calls.j0 k n true a m l) true := ev_end fun k => by simp only [Q.virgationref03_calls.j0]; rfl
    by_cases h1 : a = 1
    · rw [decide_eq_true h1, Bool.true_and]
      by_cases h2 : m = n
      · rw [decide_eq_true h2, Bool.true_or]
        exact ev_next et fun k => by simp only [Q.virgationref03_calls.f]; rw [if_pos h1, beq_iff_eq.2 h2]
      · rw [decide_eq_false h2, Bool.false_or]
        exact ev_next ef fun k => by simp only [Q.virgationref03_calls.f]; rw [if_pos h1, beq_eq_false_iff_ne.2 h2]
    · rw [decide_eq_false h1, Bool.false_and, Bool.false_or]
      exact ev_next ef fun k => by simp only [Q.virgationref03_calls.f]; rw [if_neg h1]
theorem rcalls_calls (t : S50) (n : Int) (A : Option Addr) (c : Nat) (w : World) (hC : Kd.C k50 w A t.f2.length t.f2) (hc : t.f2.length ≤ c) (hN : tN t ≤ 1000000) :
    Calls Tryz.prog 83 #[.agg #[.int .i64 t.f0, .int .i64 t.f1, .slice A t.f2.length c], .int .i64 n] w fun E w' => E = .returned (.bool (tC n t)) ∧ Below w.heap.size w w' := by
  obtain ⟨k, hk⟩ := (calls_ev n 1000000 t hN (by omega)).rounds
  exact Q.virgationref03_calls.calls k t.f0 t.f1 A c t.f2 n (tC n t) w hC hc hk
def mkb (N : List Bool) (k : Nat) : Bool := N.getD k false
theorem mkb_set {N : List Bool} {q k : Nat} (hq : q < N.length) : mkb (N.set q true) k = (decide (k = q) || mkb N k) := by
  unfold mkb
  rw [List.getD_eq_getElem?_getD, List.getD_eq_getElem?_getD, List.getElem?_set]
  by_cases h : q = k
  · subst h; simp [hq]
  · rw [if_neg h, decide_eq_false (fun e => h e.symm)]; rfl
def cf (N : List Bool) : Nat := N.count false
theorem cf_set : ∀ {N : List Bool} {q : Nat}, q < N.length → mkb N q = false → cf (N.set q true) + 1 = cf N
  | [], q, h, _ => by simp at h
  | b :: r, 0, _, h => by
    have : b = false := h
    subst this
    simp [cf]
  | b :: r, q + 1, h, h2 => by
    have ih := cf_set (N := r) (q := q) (by simpa using h) (by simpa [mkb] using h2)
    unfold cf at ih ⊢
    rw [List.set_cons_succ, List.count_cons, List.count_cons]
    omega
structure NI (fs : List S52) (N : List Bool) : Prop where
  len : N.length = fs.length
  z : mkb N 0 = true
  r : ∀ k, mkb N k = true → Rch fs k
theorem NI.start {fs : List S52} (h : 1 ≤ fs.length) : NI fs ((List.replicate fs.length false).set 0 true) := by
  refine ⟨by simp, ?_, fun k hk => ?_⟩
  · rw [mkb_set (by rw [List.length_replicate]; exact h)]; rfl
  · rw [mkb_set (by rw [List.length_replicate]; exact h)] at hk
    by_cases e : k = 0
    · subst e; exact Rch.start
    · rw [decide_eq_false e, Bool.false_or] at hk
      exfalso
      unfold mkb at hk
      rw [List.getD_eq_getElem?_getD, List.getElem?_replicate] at hk
      split at hk <;> cases hk
theorem NI.step {fs : List S52} {N : List Bool} {i q : Nat} (h : NI fs N) (hi : mkb N i = true) (hl : i < fs.length) (hq : q < fs.length) (hc : tC (q : Int) fs[i].f2 = true) : NI fs (N.set q true) := by
  have hq2 : q < N.length := by rw [h.len]; exact hq
  refine ⟨by rw [List.length_set]; exact h.len, by rw [mkb_set hq2, h.z, Bool.or_true], fun k hk => ?_⟩
  rw [mkb_set hq2, Bool.or_eq_true] at hk
  rcases hk with hk | hk
  · rw [of_decide_eq_true hk]; exact Rch.step (h.r i hi) hl hc
  · exact h.r k hk
def Clo (fs : List S52) (N : List Bool) (j q : Nat) : Prop := ∀ (i : Nat) (h : i < fs.length) (k : Nat), (i < j ∨ i = j ∧ k < q) → k < fs.length → mkb N i = true → tC (k : Int) fs[i].f2 = true → mkb N k = true
theorem Clo.start (fs : List S52) (N : List Bool) : Clo fs N 0 0 := fun i h k hq => by omega
theorem Clo.row {fs : List S52} {N : List Bool} {j : Nat} (h : Clo fs N j fs.length) : Clo fs N (j + 1) 0 := fun i hi k hq hk => h i hi k (by omega) hk
theorem Clo.at_ {fs : List S52} {N : List Bool} {j q : Nat} (h : Clo fs N j q) (hj : j < fs.length) (hn : mkb N j = true → tC (q : Int) fs[j].f2 = true → mkb N q = true) : Clo fs N j (q + 1) := fun i hi k hq hk h1 h2 => by
  by_cases e : i = j ∧ k = q
  · obtain ⟨rfl, rfl⟩ := e
    exact hn h1 h2
  · exact h i hi k (by omega) hk h1 h2
def Pss (fs : List S52) (N0 : List Bool) (j q : Nat) (b : Bool) (N : List Bool) : Prop := NI fs N ∧ (b = false ∧ N = N0 ∧ Clo fs N0 j q ∨ b = true ∧ cf N < cf N0)
theorem Pss.start {fs : List S52} {N : List Bool} (h : NI fs N) : Pss fs N 0 0 false N := ⟨h, .inl ⟨rfl, rfl, Clo.start fs N⟩⟩
theorem Pss.row {fs : List S52} {N0 N : List Bool} {j : Nat} {b : Bool} (h : Pss fs N0 j fs.length b N) : Pss fs N0 (j + 1) 0 b N := ⟨h.1, h.2.imp (fun ⟨a, c, d⟩ => ⟨a, c, d.row⟩) id⟩
theorem Pss.skip {fs : List S52} {N0 N : List Bool} {j q : Nat} {b : Bool} (h : Pss fs N0 j q b N) (hj : j < fs.length) (hn : mkb N j = true → tC (q : Int) fs[j].f2 = true → mkb N q = true) : Pss fs N0 j (q + 1) b N :=
  ⟨h.1, h.2.imp (fun ⟨a, c, d⟩ => ⟨a, c, d.at_ hj (by rwa [c] at hn)⟩) id⟩
theorem Pss.mark {fs : List S52} {N0 N : List Bool} {j q : Nat} {b : Bool} (h : Pss fs N0 j q b N) (hj : j < fs.length) (hq : q < fs.length) (h1 : mkb N j = true) (h2 : mkb N q = false) (hc : tC (q : Int) fs[j].f2 = true) : Pss fs N0 j (q + 1) true (N.set q true) := by
  have h3 := cf_set (show q < N.length by rw [h.1.len]; exact hq) h2
  refine ⟨h.1.step h1 hj hq hc, .inr ⟨rfl, ?_⟩⟩
  rcases h.2 with ⟨_, e, _⟩ | ⟨_, e⟩
  · rw [← e]; omega
  · omega
def mks (N : List Bool) (q : Nat) : List Int := ((List.range q).filter fun k => mkb N k).map fun k : Nat => (k : Int)
theorem mks_succ_f {N : List Bool} {q : Nat} (h : mkb N q = false) : mks N (q + 1) = mks N q := by
  unfold mks
  rw [List.range_succ, List.filter_append]
  simp [h]
theorem mks_succ_t {N : List Bool} {q : Nat} (h : mkb N q = true) : mks N (q + 1) = mks N q ++ [(q : Int)] := by
  unfold mks
  rw [List.range_succ, List.filter_append]
  simp [h]
theorem mks_len (N : List Bool) (q : Nat) : (mks N q).length ≤ q := by
  unfold mks
  rw [List.length_map]
  have := List.length_filter_le (fun k => mkb N k) (List.range q)
  rwa [List.length_range] at this
theorem isR_mks {fs : List S52} {N : List Bool} (h : NI fs N) (hc : Clo fs N fs.length 0) : IsR fs (mks N fs.length) := by
  refine ⟨?_, fun k => ?_⟩
  · unfold mks
    rw [List.pairwise_map]
    exact (List.Pairwise.filter _ List.pairwise_lt_range).imp (fun h => by omega)
  · unfold mks
    rw [List.mem_map]
    constructor
    · rintro ⟨j, hj, rfl⟩
      rw [List.mem_filter, List.mem_range] at hj
      exact ⟨j, rfl, hj.1, h.r j hj.2⟩
    · rintro ⟨j, rfl, hj, hr⟩
      refine ⟨j, ?_, rfl⟩
      rw [List.mem_filter, List.mem_range]
      refine ⟨hj, ?_⟩
      induction hr with
      | start => exact h.z
      | step _ hi hcc ih => exact hc _ hi _ (.inl hi) hj (ih hi) hcc
theorem mkB (n : Nat) (hn : n ≤ 1000) (W : World) : (Instr.makeSlice 125 (.int .i64 (n : Int)) (.int .i64 (n : Int))).run Tryz.prog W = .ok (.slice (some ⟨W.heap.size, 0, none⟩) n n) (W.alloc (.cells (madeCells #[.bool false] n) 4)) := by
  have info4 : (Tryz.prog.info? 4).map (fun i => (i.zero, i.size, i.bytes)) = some (some (.bool false), 1, 1) := by kernel_rfl
  obtain ⟨i, hi, hzz⟩ := Option.map_eq_some_iff.1 info4
  simp only [Prod.mk.injEq] at hzz
  obtain ⟨hz, hs, hb⟩ := hzz
  have hr := run_make (P := Tryz.prog) W 125 4 i (.bool false) Tryz.underlying125 hi hz .i64 .i64 n n (by omega) (Int.le_refl _) (by rw [hb]; omega) (by omega)
  simp only [Int.toNat_natCast, hs, Nat.mul_one] at hr
  exact hr
structure NF (w W : World) (s1 s2 : Value) (nb : Nat) (N : List Bool) : Prop where
  hb : Below w.heap.size w W
  h0 : W.heap[w.heap.size]? = some (.cells #[s1, s2] 25 (0, 0))
  hn : W.heap[nb]? = some (.cells (N.map Value.bool).toArray 4 (0, 0))
  lt : w.heap.size < nb
section
variable {w W W1 : World} {s1 s2 : Value} {nb : Nat} {N : List Bool}
theorem NF.below (h : NF w W s1 s2 nb N) (hb : Below W.heap.size W W1) : NF w W1 s1 s2 nb N := ⟨below_then h.hb h.hb.size hb, blk_below h.h0 hb, blk_below h.hn hb, h.lt⟩
theorem NF.grown (h : NF w W s1 s2 nb N) {row : Option Nat} (hb : Below w.heap.size w W1) (hg : W.grownBy W1 row) (hne : ∀ k, row = some k → nb < k) : NF w W1 s1 s2 nb N :=
  ⟨hb, blk_grown h.h0 hg (fun e => by have := hne _ e.symm; have := h.lt; omega), blk_grown h.hn hg (fun e => by have := hne _ e.symm; omega), h.lt⟩
theorem NF.set (h : NF w W s1 s2 nb N) (q : Nat) : NF w (W.setCell ⟨nb, q, none⟩ (.bool true)) s1 s2 nb (N.set q true) := by
  refine ⟨h.hb.setCell (p := ⟨nb, q, none⟩) (Nat.le_of_lt h.lt) _, blk_far h.h0 (by have := h.lt; show w.heap.size ≠ nb; omega) _, ?_, h.lt⟩
  have := blk_set h.hn q (.bool true)
  rw [this, List.map_set]
  simp
theorem NF.cell (h : NF w W s1 s2 nb N) {q : Nat} (hq : q < N.length) : W.cell? ⟨nb, q, none⟩ = some (.bool (mkb N q)) ∧ W.frozen? ⟨nb, q, none⟩ = false := by
  refine ⟨?_, blk_frozen h.hn q⟩
  rw [blk_cell h.hn]
  simp [mkb, List.getD_eq_getElem?_getD, List.getElem?_eq_getElem hq]
theorem NF.box (h : NF w W s1 s2 nb N) : W.cell? ⟨w.heap.size, 0, none⟩ = some s1 ∧ W.cell? ⟨w.heap.size, 1, none⟩ = some s2 := ⟨(blk_cell h.h0 0).trans rfl, (blk_cell h.h0 1).trans rfl⟩
end
end Go.Proofs.YthflpbgloeimfaaGreatDoor.H
namespace Go.Proofs.YthflpbgloeimfaaGreatDoor.H
open Go.RowKit Go.Proofs.YthflpbgloeimfaaGreatDoorW.PrintWords Go.Proofs.YthflpbgloeimfaaGreatDoorW.PrintLast Go.Proofs.YthflpbgloeimfaaGreatDoorW.PrintMore
open Go.Proofs.YthflpbgloeimfaaGreatDoor.Q (S47 k47 rd_T47 z47 at_T47 S50 k50 rd_T50 z50 at_T50 S52 k52 rd_T52 at_T52 z52 S71 k71 rd_T71 at_T71)
set_option linter.unusedVariables false
set_option linter.unusedSimpArgs false
set_option maxHeartbeats 16000000 in
set_option maxRecDepth 100000 in
theorem rreach_calls (sy : List S71) (fs : List S52) (A1 A2 : Option Addr) (c1 c2 : Nat) (w : World) (hS : Kd.C k71 w A1 sy.length sy) (hF : Kd.C k52 w A2 fs.length fs) (hc1 : sy.length ≤ c1) (hc2 : fs.length ≤ c2) :
    Calls Tryz.prog 32 #[.agg #[.slice A1 sy.length c1, .slice A2 fs.length c2]] w (ReQ sy fs w) := by
  have HF := Aside0.mk hF
  have H1 := Aside0.mk fun W (hW : Below w.heap.size w W) => risch_calls sy fs A1 A2 c1 c2 W (Kd.C_below hS hW) (Kd.C_below hF hW) hc1 hc2
  have HB := Aside0.mk (CB.mk (below_alloc (Below.refl w.heap.size w) (.cells #[.slice A1 sy.length c1, .slice A2 fs.length c2] 25)) (blk_new w (.cells #[.slice A1 sy.length c1, .slice A2 fs.length c2] 25)))
  clear hS hF hc1 hc2
  go_enter Tryz.func32, Tryz.ntmps32
  go_upto_region 1 with (fail)
  generalize w.alloc (.cells #[.slice A1 sy.length c1, .slice A2 fs.length c2] 25) = W1 at *
  obtain ⟨k0, k1⟩ := (HB.out).cells
  cases qv : schB sy fs with
  | false =>
    have HQ := Aside0.mk qv
    rw [qv] at H1
    clear qv
    go_wp2_with fail
    refine (H1.out _ (HB.out).hb).mono ?_
    rintro E W2 ⟨rfl, hb⟩
    have HB2 := Aside0.mk ((HB.out).below hb)
    clear hb HB k0 k1
    go_wp2
    go_ret2
    exact ⟨(HB2.out).hb, .inl ⟨HQ.out, rfl⟩⟩
  | true =>
  have HQ := Aside0.mk qv
  rw [qv] at H1
  clear qv
  go_wp2_with fail
  refine (H1.out _ (HB.out).hb).mono ?_
  rintro E W2 ⟨rfl, hb⟩
  have HB2 := Aside0.mk ((HB.out).below hb)
  clear hb HB k0 k1 H1
  have HN := Aside0.mk (show fs.length ≤ 64 ∧ 1 ≤ fs.length from ⟨(schB_seven HQ.out).2.2.1, (schB_seven HQ.out).2.1⟩)
  have HTN := Aside0.mk (show ∀ f ∈ fs, tN f.f2 ≤ 400 from fun f hf => (bodyOk_parts ((schB_seven HQ.out).2.2.2.2.2.2 f hf)).1)
  obtain ⟨k0, k1⟩ := (HB2.out).cells
  have hmk := mkB fs.length (by have := HN.out; omega)
  have HNF := Aside0.mk (show NF w (W2.alloc (.cells (madeCells #[.bool false] fs.length) 4)) (.slice A1 sy.length c1) (.slice A2 fs.length c2) W2.heap.size (List.replicate fs.length false) from
    ⟨below_alloc (HB2.out).hb _, blk_alloc (HB2.out).h0 _, by rw [blk_new W2, made_rep]; simp, blk_lt (HB2.out).h0⟩)
  have h0z : (0 : Int) < (fs.length : Int) := by have := HN.out; omega
  go_upto_region 4 with (fail)
  clear k0 k1 hmk HB2
  generalize (W2.alloc (.cells (madeCells #[.bool false] fs.length) 4)) = W3 at *
  generalize W2.heap.size = nb at *
  obtain ⟨n0, nf0⟩ := (HNF.out).cell (q := 0) (by rw [List.length_replicate]; have := HN.out; omega)
  go_upto_region 5 with (fail)
  have HNF2 := Aside0.mk ((HNF.out).set 0)
  have HNI := Aside0.mk (NI.start (fs := fs) (HN.out).2)
  clear n0 nf0 HNF
  generalize (W3.setCell ⟨nb, 0, none⟩ (.bool true)) = W4 at *
  generalize (List.replicate fs.length false).set 0 true = N at *
  go_wp2
  go_loopg [5] (2 * cf N + 1) (fun gg v5 wi => ∃ (b : Bool) (N1 : List Bool), 2 * cf N1 + (if b = true then 1 else 0) ≤ gg ∧ v5 = .bool b ∧ Aside0 (NF w wi (.slice A1 sy.length c1) (.slice A2 fs.length c2) nb N1) ∧ Aside0 (NI fs N1) ∧ Aside0 (b = false → Clo fs N1 fs.length 0))
  case atStart => exact ⟨true, N, by simp, rfl, HNF2, HNI, ⟨fun h => Bool.noConfusion h⟩⟩
  case round =>
    clear HNF2 HNI
    obtain ⟨b, N1, hgg, rfl, HF1, HI1, HC1⟩ := hrel
    cases b with
    | false =>
      clear hgg
      have HCL := Aside0.mk (HC1.out rfl)
      go_wp2
      go_loopg [9, 60] fs.length (fun gg v9 v60 wi => ∃ (q : Nat) (A : Option Addr) (c : Nat), q ≤ fs.length ∧ fs.length - q ≤ gg ∧ v9 = .slice A (mks N1 q).length c ∧ v60 = .int .i64 q ∧ Aside0 (NF w wi (.slice A1 sy.length c1) (.slice A2 fs.length c2) nb N1) ∧ Aside0 (Kd.R (Kd.int .i64) 3 wi w.heap.size (fun k => nb < k) (.slice A (mks N1 q).length c) (mks N1 q)))
      case atStart => exact ⟨0, none, 0, Nat.zero_le _, Nat.le_refl _, rfl, rfl, HF1, ⟨Kd.R_nil _ _ _ _ _⟩⟩
      case round =>
        clear HF1
        obtain ⟨q, A, c, hq, hgg, rfl, rfl, HF1, HR⟩ := hrel
        by_cases hlt : q < fs.length
        · have hltz : (q : Int) < (fs.length : Int) := by omega
          obtain ⟨n0, nf0⟩ := (HF1.out).cell (q := q) (by rw [(HI1.out).len]; exact hlt)
          have hnn : (0 : Int) ≤ (q : Int) := by omega
          have HKZ := Aside0.mk (show wrap64 ((q : Int) + 1) = ((q + 1 : Nat) : Int) by rw [wr_id (by omega) (by have := HN.out; omega)]; rfl)
          cases hv : mkb N1 q with
          | false =>
            rw [hv] at n0
            have HM := Aside0.mk (mks_succ_f hv)
            clear hv
            go_wp2
            go_roundg (fs.length - (q + 1))
            case measure => omega
            case rel => exact ⟨q + 1, A, c, hlt, Nat.le_refl _, by rw [HM.out], by rw [HKZ.out], HF1, ⟨by rw [HM.out]; exact HR.out⟩⟩
          | true =>
            rw [hv] at n0
            have HM := Aside0.mk (mks_succ_t hv)
            have HLB := Aside0.mk (show ((mks N1 q).length + 1) * 8 ≤ 140737488355328 by have := mks_len N1 q; have := HN.out; omega)
            have HSZ := Aside0.mk (show nb < wr.heap.size from blk_sz (HF1.out).hn)
            clear hv
            go_wp2_with ((with_reducible refine gate_builtin (b := .append) (xs := #[.tmp 66, .tmp 68]) rfl ?_); at_builtin; refine Kd.R_append (Kd.int .i64) (w0 := w) w.heap.size rfl (.tmp 66) (.tmp 68) 39 3 (.int .i64 0) 8 rfl Tryz.underlying39 info3 rfl (by decide) (by decide) (.slice A (mks N1 q).length c) (mks N1 q) (q : Int) [.int .i64 (q : Int)] (fun k => nb < k) (fun _ => False) rfl rfl rfl (fun _ hk => hk.elim) (fun k hk => Nat.lt_of_lt_of_le HSZ.out hk) HR.out (HF1.out).hb (HF1.out).hb.size HLB.out ?_; intro v5 w6 ho5 hb5 hg5 hat5; (obtain ⟨A9, c9, rfl⟩ := Kd.R_slice ho5); have HF2 := Aside0.mk ((HF1.out).grown hb5 hg5 (HR.out).1); have HR2 := Aside0.mk ho5; clear ho5 hb5 hg5 hat5)
            go_roundg (fs.length - (q + 1))
            case measure => omega
            case rel => exact ⟨q + 1, A9, c9, hlt, Nat.le_refl _, by rw [HM.out, List.length_append, List.length_singleton], by rw [HKZ.out], HF2, ⟨by rw [HM.out]; exact HR2.out⟩⟩
        · have hltz : ¬ (q : Int) < (fs.length : Int) := by omega
          obtain rfl : q = fs.length := by omega
          have hrd := Aside0.mk (Kd.R_reads' HR.out)
          have HIR := Aside0.mk (isR_mks HI1.out HCL.out)
          clear hgg hq hlt
          go_wp2
          go_ret2
          exact ⟨(HF1.out).hb, .inr ⟨HQ.out, mks N1 fs.length, A, c, HIR.out, rfl, (hrd.out).2.1, (hrd.out).2.2⟩⟩
    | true =>
      have HGG := Aside0.mk hgg
      clear hgg HC1
      obtain ⟨p0, p1⟩ := (HF1.out).box
      go_wp2
      clear p0 p1
      go_loopg [5, 25] fs.length (fun gg v5 v25 wi => ∃ (j : Nat) (b : Bool) (N2 : List Bool), j ≤ fs.length ∧ fs.length - j ≤ gg ∧ v5 = .bool b ∧ v25 = .int .i64 j ∧ Aside0 (NF w wi (.slice A1 sy.length c1) (.slice A2 fs.length c2) nb N2) ∧ Aside0 (Pss fs N1 j 0 b N2))
      case atStart => exact ⟨0, false, N1, Nat.zero_le _, Nat.le_refl _, rfl, rfl, HF1, ⟨Pss.start HI1.out⟩⟩
      case round =>
        clear HF1
        obtain ⟨j, b, N2, hj, hgg, rfl, rfl, HF2, HP2⟩ := hrel
        by_cases hlt : j < fs.length
        · have hltz : (j : Int) < (fs.length : Int) := by omega
          have HLT := Aside0.mk hlt
          obtain ⟨ad, As, cs, At, ct, e, hx0, hx1, hx2, hx3, hx4, hls, hCs, hlt4, hCt⟩ := at_T52 HF.out (j : Int) (by omega) hltz
          subst e
          rw [rdF_at hlt] at hx0 hx1 hx2 hx3 hx4 hls hCs hlt4 hCt
          rw [Int.toNat_natCast] at hx0 hx1 hx2 hx3 hx4
          replace hx0 := pw_cell_below (HF2.out).hb hx0
          replace hx1 := pw_cell_below (HF2.out).hb hx1
          replace hx2 := pw_cell_below (HF2.out).hb hx2
          replace hx3 := pw_cell_below (HF2.out).hb hx3
          replace hx4 := pw_cell_below (HF2.out).hb hx4
          have HKJ := Aside0.mk (show wrap64 ((j : Int) + 1) = ((j + 1 : Nat) : Int) by rw [wr_id (by omega) (by have := HN.out; omega)]; rfl)
          have HBD := Aside0.mk (show ∃ f : S52, f = fs[j] from ⟨_, rfl⟩)
          have HTF := Aside0.mk (HTN.out _ (List.getElem_mem hlt))
          have HCT := Aside0.mk (And.intro hlt4 hCt)
          have HSK := Aside0.mk (fun (q : Nat) (b : Bool) (N3 : List Bool) (h : Pss fs N1 j q b N3) hn => Pss.skip (q := q) h hlt hn)
          have HMK := Aside0.mk (fun (q : Nat) (b : Bool) (N3 : List Bool) (h : Pss fs N1 j q b N3) hq h1 h2 hc => Pss.mark (q := q) h hlt hq h1 h2 hc)
          clear hls hCs hlt4 hCt HBD
          generalize fs[j] = f at *
          have hnn : (0 : Int) ≤ (j : Int) := by omega
          go_upto_region 11 with (fail)
          have hba := below_alloc (Below.refl wr.heap.size wr) (.cells #[.string f.f0, .slice As f.f1.f0.length cs, .int .i64 f.f2.f0, .int .i64 f.f2.f1, .slice At f.f2.f2.length ct] 52)
          have HX7 := Aside0.mk (blk_new wr (.cells #[.string f.f0, .slice As f.f1.f0.length cs, .int .i64 f.f2.f0, .int .i64 f.f2.f1, .slice At f.f2.f2.length ct] 52))
          have HNB := Aside0.mk (show nb < wr.heap.size from blk_sz (HF2.out).hn)
          have HF3 := Aside0.mk ((HF2.out).below hba)
          clear hx0 hx1 hx2 hx3 hx4 hba HF2
          generalize (wr.alloc (.cells #[.string f.f0, .slice As f.f1.f0.length cs, .int .i64 f.f2.f0, .int .i64 f.f2.f1, .slice At f.f2.f2.length ct] 52)) = w5 at *
          generalize wr.heap.size = b7 at *
          obtain ⟨p0, p1⟩ := (HF3.out).box
          go_wp2
          clear p0 p1
          go_loopg [5, 33] fs.length (fun gg v5 v33 wi => ∃ (q : Nat) (b : Bool) (N3 : List Bool), q ≤ fs.length ∧ fs.length - q ≤ gg ∧ v5 = .bool b ∧ v33 = .int .i64 q ∧ Aside0 (NF w wi (.slice A1 sy.length c1) (.slice (some ad) fs.length c2) nb N3) ∧ Aside0 (wi.heap[b7]? = some (.cells #[.string f.f0, .slice As f.f1.f0.length cs, .int .i64 f.f2.f0, .int .i64 f.f2.f1, .slice At f.f2.f2.length ct] 52 (0, 0))) ∧ Aside0 (Pss fs N1 j q b N3))
          case atStart => exact ⟨0, b, N2, Nat.zero_le _, Nat.le_refl _, rfl, rfl, HF3, HX7, HP2⟩
          case round =>
            clear HF3 HX7 HP2
            obtain ⟨q, b, N3, hq, hgg3, rfl, rfl, HF3, HX7, HP3⟩ := hrel
            by_cases hlq : q < fs.length
            · have hlqz : (q : Int) < (fs.length : Int) := by omega
              have HLQ := Aside0.mk hlq
              have HLN := Aside0.mk (HP3.out).1.len
              obtain ⟨n0, nf0⟩ := (HF3.out).cell (q := j) (by rw [HLN.out]; exact HLT.out)
              obtain ⟨n1, nf1⟩ := (HF3.out).cell (q := q) (by rw [HLN.out]; exact hlq)
              have hqq : (0 : Int) ≤ (q : Int) := by omega
              have HKQ := Aside0.mk (show wrap64 ((q : Int) + 1) = ((q + 1 : Nat) : Int) by rw [wr_id (by omega) (by have := HN.out; omega)]; rfl)
              cases hv : mkb N3 j with
              | false =>
                have HP4 := Aside0.mk (HSK.out q b N3 HP3.out (fun h => by rw [hv] at h; cases h))
                rw [hv] at n0
                clear hv
                go_wp2
                go_roundg (fs.length - (q + 1))
                case measure => omega
                case rel => exact ⟨q + 1, b, N3, HLQ.out, Nat.le_refl _, rfl, by rw [HKQ.out], HF3, HX7, HP4⟩
              | true =>
                have HV1 := Aside0.mk hv
                rw [hv] at n0
                clear hv
                cases hv : mkb N3 q with
                | true =>
                  have HP4 := Aside0.mk (HSK.out q b N3 HP3.out (fun _ _ => hv))
                  rw [hv] at n1
                  clear hv
                  go_wp2
                  go_roundg (fs.length - (q + 1))
                  case measure => omega
                  case rel => exact ⟨q + 1, b, N3, HLQ.out, Nat.le_refl _, rfl, by rw [HKQ.out], HF3, HX7, HP4⟩
                | false =>
                  have HV2 := Aside0.mk hv
                  rw [hv] at n1
                  have HCC := Aside0.mk (rcalls_calls f.f2 (q : Int) At ct wr (Kd.C_below (HCT.out).2 (HF3.out).hb) (HCT.out).1 (by have := HTF.out; omega))
                  have m2 : wr.cell? ⟨b7, 2, none⟩ = some (.int .i64 f.f2.f0) := (blk_cell HX7.out 2).trans rfl
                  have m3 : wr.cell? ⟨b7, 3, none⟩ = some (.int .i64 f.f2.f1) := (blk_cell HX7.out 3).trans rfl
                  have m4 : wr.cell? ⟨b7, 4, none⟩ = some (.slice At f.f2.f2.length ct) := (blk_cell HX7.out 4).trans rfl
                  clear hv
                  go_wp2_with fail
                  refine (HCC.out).mono ?_
                  rintro E w8 ⟨rfl, hb⟩
                  have HF4 := Aside0.mk ((HF3.out).below hb)
                  have HX8 := Aside0.mk (blk_below HX7.out hb)
                  clear hb n0 n1 nf0 nf1 m2 m3 m4 HCC
                  cases hc : tC (q : Int) f.f2 with
                  | false =>
                    have HP4 := Aside0.mk (HSK.out q b N3 HP3.out (fun _ h => by rw [hc] at h; cases h))
                    clear hc
                    go_wp2
                    go_roundg (fs.length - (q + 1))
                    case measure => omega
                    case rel => exact ⟨q + 1, b, N3, HLQ.out, Nat.le_refl _, rfl, by rw [HKQ.out], HF4, HX8, HP4⟩
                  | true =>
                    have HP4 := Aside0.mk (HMK.out q b N3 HP3.out HLQ.out HV1.out HV2.out hc)
                    obtain ⟨n1, nf1⟩ := (HF4.out).cell (q := q) (by rw [HLN.out]; exact HLQ.out)
                    have HF5 := Aside0.mk ((HF4.out).set q)
                    have HX9 := Aside0.mk (blk_far HX8.out (p := ⟨nb, q, none⟩) (by have := HNB.out; show b7 ≠ nb; omega) (.bool true))
                    clear hc
                    go_wp2
                    go_roundg (fs.length - (q + 1))
                    case measure => omega
                    case rel => exact ⟨q + 1, true, N3.set q true, HLQ.out, Nat.le_refl _, rfl, by rw [HKQ.out], HF5, HX9, HP4⟩
            · have hlqz : ¬ (q : Int) < (fs.length : Int) := by omega
              obtain rfl : q = fs.length := by omega
              have HP4 := Aside0.mk ((HP3.out).row)
              clear hgg3 hq hlq
              go_wp2
              go_roundg (fs.length - (j + 1))
              case measure => have := HLT.out; omega
              case rel => exact ⟨j + 1, b, N3, HLT.out, Nat.le_refl _, rfl, by rw [HKJ.out], HF3, HP4⟩
        · have hltz : ¬ (j : Int) < (fs.length : Int) := by omega
          obtain rfl : j = fs.length := by omega
          clear hgg hj hlt
          go_wp2
          go_roundg (2 * cf N2 + if b = true then 1 else 0)
          case measure =>
            have h1 := HGG.out
            rcases (HP2.out).2 with ⟨rfl, e, _⟩ | ⟨rfl, e⟩
            · rw [e]; simp only [if_true, Bool.false_eq_true, if_false] at h1 ⊢; omega
            · simp only [if_true] at h1 ⊢; omega
          case rel =>
            exact ⟨b, N2, Nat.le_refl _, rfl, HF2, ⟨(HP2.out).1⟩, ⟨fun hb => by
              rcases (HP2.out).2 with ⟨_, e, h⟩ | ⟨h, _⟩
              · rw [e]; exact h
              · rw [h] at hb; cases hb⟩⟩
end Go.Proofs.YthflpbgloeimfaaGreatDoor.H
namespace Go.Proofs.YthflpbgloeimfaaGreatDoor.H
open Go.RowKit Go.Proofs.YthflpbgloeimfaaGreatDoorW.PrintWords Go.Proofs.YthflpbgloeimfaaGreatDoorW.PrintLast Go.Proofs.YthflpbgloeimfaaGreatDoorW.PrintMore
set_option linter.unusedVariables false
set_option linter.unusedSimpArgs false
theorem iter_below (w : World) (s : ByteArray) (p : Nat) : Below w.heap.size w (w.iter s p) := below_alloc (Below.refl _ _) _
set_option maxHeartbeats 8000000 in
set_option maxRecDepth 100000 in
theorem irune_calls (r : Int) (h0 : 128 ≤ r) (h1 : r ≤ 2147483647) (w : World) :
    Calls Tryz.prog 188 #[.string ⟨#[32, 40, 41]⟩, .int .i32 r] w fun E w' => E = .returned (.int .i64 (-1)) ∧ Below w.heap.size w w' := by
  have HB := Aside0.mk h0
  by_cases hr : r = 65533
  · subst hr
    clear h0 h1
    go_enter Tryz.func188, Tryz.ntmps188
    go_wp2
    go_loopg [5, 6] 3 (fun g _ _ wx => ∃ i : Nat, i + g = 3 ∧ wx = w.iter ⟨#[32, 40, 41]⟩ i)
    case atStart => exact ⟨0, by omega, rfl⟩
    case round =>
      obtain ⟨i, hig, rfl⟩ := hrel
      cases gk with
      | zero =>
        obtain rfl : i = 3 := by omega
        have hnx := run_next_end (P := Tryz.prog) w ⟨#[32, 40, 41]⟩ 3
        have hnx2 := fun ty => hnx ty (by decide)
        clear hnx
        go_wp2
        go_ret
        exact ⟨rfl, iter_below _ _ _⟩
      | succ g =>
        have hi : i = 0 ∨ i = 1 ∨ i = 2 := by omega
        have hnx : ∃ x : Int, x < 128 ∧ 0 ≤ x ∧ ∀ ty, (Instr.next (.pointer (some ⟨w.heap.size, 0, none⟩)) true ty).run Tryz.prog (w.iter ⟨#[32, 40, 41]⟩ i) = .ok (.tuple #[.bool true, .int .i64 i, .int .i32 x]) (w.iter ⟨#[32, 40, 41]⟩ (i + 1)) := by
          rcases hi with rfl | rfl | rfl
          · exact ⟨32, by decide, by decide, fun ty => run_next_ascii w ⟨#[32, 40, 41]⟩ 0 ty (by decide) (by decide)⟩
          · exact ⟨40, by decide, by decide, fun ty => run_next_ascii w ⟨#[32, 40, 41]⟩ 1 ty (by decide) (by decide)⟩
          · exact ⟨41, by decide, by decide, fun ty => run_next_ascii w ⟨#[32, 40, 41]⟩ 2 ty (by decide) (by decide)⟩
        obtain ⟨x, hx, hx0, hnx⟩ := hnx
        have hne : ¬ x = 65533 := by omega
        clear hx hx0 hi
        go_wp2
        go_roundg g
        case measure => omega
        case rel => exact ⟨i + 1, by omega, rfl⟩
  · have hlt : ¬ r < 128 := by omega
    have hV := Aside0.mk (Tryz.utf8_ValidRune r w)
    have hge : (0 : Int) ≤ r := by omega
    go_enter Tryz.func188, Tryz.ntmps188
    go_wp2_with fail
    refine (hV.out).mono ?_
    rintro E w2 ⟨rfl, rfl⟩
    cases q : Lib.validRune r with
    | false =>
      go_wp2
      go_ret
      exact ⟨rfl, Below.refl _ _⟩
    | true =>
      have hv : Utf8.valid r = true := by rw [validRune_eq]; exact q
      have HF := Aside0.mk (encode_facts r hv h0)
      clear hV
      go_upto_region 2 with (fail)
      go_step3
      go_upto_region 2 with (fail)
      generalize Utf8.encode r = e at *
      have h2 := (HF.out).1
      have h4 := (HF.out).2.1
      have hcs : (∃ a x, e = ⟨#[a, x]⟩ ∧ 128 ≤ (x : UInt8).toNat) ∨ (∃ a b x, e = ⟨#[a, b, x]⟩ ∧ 128 ≤ (x : UInt8).toNat) ∨ (∃ a b c x, e = ⟨#[a, b, c, x]⟩ ∧ 128 ≤ (x : UInt8).toNat) := by
        have h8 := (HF.out).2.2
        obtain ⟨⟨l⟩⟩ := e
        match l, h2, h4, h8 with
        | [a, x], _, _, h8 => exact .inl ⟨a, x, rfl, h8 (Nat.sub_lt (by simp [ByteArray.size]) (by decide))⟩
        | [a, b, x], _, _, h8 => exact .inr (.inl ⟨a, b, x, rfl, h8 (Nat.sub_lt (by simp [ByteArray.size]) (by decide))⟩)
        | [a, b, c, x], _, _, h8 => exact .inr (.inr ⟨a, b, c, x, rfl, h8 (Nat.sub_lt (by simp [ByteArray.size]) (by decide))⟩)
        | [], h2, _, _ => exact absurd h2 (by decide)
        | [_], h2, _, _ => simp [ByteArray.size] at h2
        | _ :: _ :: _ :: _ :: _ :: _, _, h4, _ => simp [ByteArray.size] at h4
      clear HF h2 h4
      rcases hcs with ⟨a, x, rfl, hx⟩ | ⟨a, b, x, rfl, hx⟩ | ⟨a, b, c, x, rfl, hx⟩
      · have hne : ¬ x = 40 := by rintro rfl; revert hx; decide
        have hne2 : ¬ x = 41 := by rintro rfl; revert hx; decide
        have hq : ((((ByteArray.mk #[32, 40, 41])[1]'(by decide)).toNat : Int) != (((ByteArray.mk #[a, x])[1]'(by simp [ByteArray.size])).toNat : Int)) = true := by
          show ((40 : Int) != (x.toNat : Int)) = true
          simp
          omega
        have HI := Aside0.mk (fun (W : World) => Tryz.strings_IndexByte ((ByteArray.mk #[32, 40, 41]).extract 2 3) (((ByteArray.mk #[a, x])[1]'(by simp [ByteArray.size])).toNat : Int) W)
        have hid : Lib.indexByte ((ByteArray.mk #[32, 40, 41]).extract 2 3).data.toList (Int.toNat (((ByteArray.mk #[a, x])[1]'(by simp [ByteArray.size])).toNat : Int)).toUInt8 = -1 := by
          show Lib.indexByte [41] (Int.toNat (x.toNat : Int)).toUInt8 = -1
          rw [show (Int.toNat (x.toNat : Int)).toUInt8 = x by simp]
          simp [Lib.indexByte, Ne.symm hne2]
        rw [hid] at HI
        clear hid hne hne2
        go_upto_region 5 with (fail)
        go_loopg [9] 1 (fun g v9 wx => v9 = .int .i64 1 ∧ wx = w2)
        case atStart => exact ⟨rfl, rfl⟩
        case round =>
          obtain ⟨rfl, rfl⟩ := hrel
          go_upto_region 6 with (fail)
          go_step3
          go_upto_region 6 with (fail)
          have hT : True := trivial
          go_region_held3 (fun _ => True) (first | exact hT | fail) (first | fail)
          all_goals
            go_upto_region 7 with (fail)
            have hw2 : IntKind.i64.wrap 2 = 2 := by decide
            go_region_held3 (fun _ => True) (first | exact hT | fail) (first | (go_at_call 197; refine (HI.out _).mono ?_; rintro E w3 ⟨rfl, rfl⟩) | fail)
          all_goals
            go_wp2
            simp only [Exit.noGoto, Exit.inBlock, Exit.then]
            go_ret
            exact ⟨rfl, below_drew (below_drew (Below.refl _ _))⟩
      · have hne : ¬ x = 41 := by rintro rfl; revert hx; decide
        have hne2 : ¬ x = 41 := by rintro rfl; revert hx; decide
        have hq : ((((ByteArray.mk #[32, 40, 41])[2]'(by decide)).toNat : Int) != (((ByteArray.mk #[a, b, x])[2]'(by simp [ByteArray.size])).toNat : Int)) = true := by
          show ((41 : Int) != (x.toNat : Int)) = true
          simp
          omega
        have HI := Aside0.mk (fun (W : World) => Tryz.strings_IndexByte (ByteArray.empty) (((ByteArray.mk #[a, b, x])[2]'(by simp [ByteArray.size])).toNat : Int) W)
        have hid : Lib.indexByte (ByteArray.empty).data.toList (Int.toNat (((ByteArray.mk #[a, b, x])[2]'(by simp [ByteArray.size])).toNat : Int)).toUInt8 = -1 := by
          show Lib.indexByte [] (Int.toNat (x.toNat : Int)).toUInt8 = -1
          rw [show (Int.toNat (x.toNat : Int)).toUInt8 = x by simp]
          simp [Lib.indexByte, Ne.symm hne2]
        rw [hid] at HI
        clear hid hne hne2
        go_upto_region 5 with (fail)
        go_loopg [9] 1 (fun g v9 wx => v9 = .int .i64 2 ∧ wx = w2)
        case atStart => exact ⟨rfl, rfl⟩
        case round =>
          obtain ⟨rfl, rfl⟩ := hrel
          go_upto_region 6 with (fail)
          go_step3
          go_upto_region 6 with (fail)
          have hT : True := trivial
          go_region_held3 (fun _ => True) (first | exact hT | fail) (first | fail)
          all_goals
            go_upto_region 7 with (fail)
            have hw3 : IntKind.i64.wrap 3 = 3 := by decide
            go_region_held3 (fun _ => True) (first | exact hT | fail) (first | (go_at_call 197; refine (HI.out _).mono ?_; rintro E w3 ⟨rfl, rfl⟩) | fail)
          all_goals
            go_wp2
            simp only [Exit.noGoto, Exit.inBlock, Exit.then]
            go_ret
            exact ⟨rfl, below_drew (below_drew (Below.refl _ _))⟩
      · go_upto_region 5 with (fail)
        go_loopg [9] 1 (fun g v9 wx => v9 = .int .i64 3 ∧ wx = w2)
        case atStart => exact ⟨rfl, rfl⟩
        case round =>
          obtain ⟨rfl, rfl⟩ := hrel
          go_wp2
          simp only [Exit.noGoto, Exit.inBlock, Exit.then]
          go_ret
          exact ⟨rfl, Below.refl _ _⟩
end Go.Proofs.YthflpbgloeimfaaGreatDoor.H
namespace Go.Proofs.YthflpbgloeimfaaGreatDoor.H
open Go.RowKit Go.Proofs.YthflpbgloeimfaaGreatDoorW.PrintWords Go.Proofs.YthflpbgloeimfaaGreatDoorW.PrintLast Go.Proofs.YthflpbgloeimfaaGreatDoorW.PrintMore
set_option linter.unusedVariables false
set_option linter.unusedSimpArgs false
def itSet (W : World) (a : Nat) (s : ByteArray) (p : Nat) : World := { W with heap := W.heap.setIfInBounds a (.stringIter s p) }
theorem run_next_blk {P : Program} (W : World) (a : Nat) (s : ByteArray) (pos : Nat) (ty : TypeId) (hW : W.heap[a]? = some (.stringIter s pos)) (h : pos < s.size) :
    (Instr.next (.pointer (some ⟨a, 0, none⟩)) true ty).run P W = .ok (.tuple #[.bool true, .int .i64 pos, .int .i32 (Utf8.decode s pos).1]) (itSet W a s (pos + (Utf8.decode s pos).2)) := by
  simp only [Instr.next, getObj, setObj, Sem.run_bind, Sem.run, hW, Result.andThen, h, if_true]
  simp [goInt, itSet]
theorem run_next_blk_end {P : Program} (W : World) (a : Nat) (s : ByteArray) (pos : Nat) (ty : TypeId) (hW : W.heap[a]? = some (.stringIter s pos)) (h : ¬ pos < s.size) :
    (Instr.next (.pointer (some ⟨a, 0, none⟩)) true ty).run P W = .ok (.tuple #[.bool false]) W := by
  simp [Instr.next, getObj, Sem.run, hW, h]
theorem get_big (s : ByteArray) (i : Nat) (h : i < s.size) : s.get! i = s[i]'h := by
  simp [ByteArray.get!, getElem!_pos, h]
  rfl
theorem decode_bytes (s : ByteArray) (pos : Nat) (h : pos < s.size) (ha : 128 ≤ (s[pos]'h).toNat) : ∀ k, k < (Utf8.decode s pos).2 → pos + k < s.size ∧ 128 ≤ (s.get! (pos + k)).toNat := by
  have hn : ¬ (s[pos]'h).toNat < 128 := by omega
  have h0 : pos + 0 < s.size ∧ 128 ≤ (s.get! (pos + 0)).toNat := ⟨by omega, by rw [get_at s pos h]; exact ha⟩
  intro k hk
  simp only [Utf8.decode, get_at s pos h, hn, if_false] at hk
  repeat' split at hk
  all_goals simp only [Bool.and_eq_true, decide_eq_true_eq, beq_iff_eq] at *
  · rename_i _ h1
    have : k = 0 ∨ k = 1 := by omega
    rcases this with rfl | rfl
    · exact h0
    · exact ⟨h1.2.1, by omega⟩
  · obtain rfl : k = 0 := by omega
    exact h0
  · rename_i h1 _
    have : k = 0 ∨ k = 1 ∨ k = 2 := by omega
    rcases this with rfl | rfl | rfl
    · exact h0
    · exact ⟨h1.1.2.1, by omega⟩
    · exact ⟨h1.2.1, by omega⟩
  · obtain rfl : k = 0 := by omega
    exact h0
  · rename_i h1 _
    have : k = 0 ∨ k = 1 ∨ k = 2 ∨ k = 3 := by omega
    rcases this with rfl | rfl | rfl | rfl
    · exact h0
    · exact ⟨h1.1.1.2.1, by omega⟩
    · exact ⟨h1.1.2.1, by omega⟩
    · exact ⟨h1.2.1, by omega⟩
  · obtain rfl : k = 0 := by omega
    exact h0
  · obtain rfl : k = 0 := by omega
    exact h0
theorem noAny_rune {s : ByteArray} {i n : Nat} (h : Lib.NoAny s.data.toList [32, 40, 41] i) (hb : ∀ k, k < n → i + k < s.size ∧ 128 ≤ (s.get! (i + k)).toNat) : Lib.NoAny s.data.toList [32, 40, 41] (i + n) := by
  intro j b hj hx
  by_cases hji : j < i
  · exact h j b hji hx
  · obtain ⟨h1, h2⟩ := hb (j - i) (by omega)
    rw [show i + (j - i) = j by omega] at h1 h2
    rw [get_big s j h1] at h2
    have := Lib.data_getElem? s j h1
    rw [hx] at this
    obtain rfl := Option.some.inj this
    have h3 : ∀ y : UInt8, y.toNat < 128 → (s[j]'h1) ≠ y := fun y hy e => by rw [e] at h2; omega
    simp [h3 32 (by decide), h3 40 (by decide), h3 41 (by decide)]
theorem itSet_blk {W : World} {a : Nat} {s : ByteArray} {p q : Nat} (h : W.heap[a]? = some (.stringIter s p)) : (itSet W a s q).heap[a]? = some (.stringIter s q) := by
  have := blk_lt h
  simp [itSet, this]
theorem itSet_below {W : World} {a : Nat} (s : ByteArray) (q : Nat) : Below a W (itSet W a s q) :=
  ⟨rfl, rfl, rfl, by simp [itSet], fun k hk => by simp only [itSet]; rw [Array.getElem?_setIfInBounds]; rw [if_neg (by omega)]⟩
set_option maxHeartbeats 8000000 in
set_option maxRecDepth 100000 in
theorem iashort_calls (s : ByteArray) (w : World) (h8 : s.size ≤ 8) :
    Calls Tryz.prog 166 #[.string s, .string ⟨#[32, 40, 41]⟩] w fun E w' => E = .returned (.int .i64 (Lib.indexAny s.data.toList [32, 40, 41])) ∧ Below w.heap.size w w' := by
  have HI := Aside0.mk (Tryz.strings_shouldUseASCIISet (s.size : Int) w)
  rw [decide_eq_false (show ¬ (8 : Int) < (s.size : Int) by omega)] at HI
  clear h8
  go_enter Tryz.func166, Tryz.ntmps166
  go_wp2_with fail
  refine (HI.out).mono ?_
  rintro E w2 ⟨rfl, hw⟩
  subst hw
  go_wp2
  go_loopg [9, 10] s.size (fun g _ _ wx => ∃ i : Nat, i ≤ s.size ∧ s.size - i ≤ g ∧ Aside0 (wx.heap[w2.heap.size]? = some (.stringIter s i)) ∧ Aside0 (Below w2.heap.size w2 wx) ∧ Aside0 (Lib.NoAny s.data.toList [32, 40, 41] i))
  case atStart => exact ⟨0, by omega, by omega, ⟨World.iter_heap _ _ _⟩, ⟨iter_below _ _ _⟩, ⟨Lib.NoAny.zero _ _⟩⟩
  case round =>
    clear HI
    obtain ⟨i, hi, hgg, HX, HB, HN⟩ := hrel
    by_cases hlt : i < s.size
    · have hnx := fun ty => run_next_blk (P := Tryz.prog) wr w2.heap.size s i ty HX.out hlt
      have HN2 := Aside0.mk (itSet_blk (q := i + (Utf8.decode s i).2) HX.out)
      have HB2 := Aside0.mk (Below.trans HB.out (itSet_below (W := wr) (a := w2.heap.size) s (i + (Utf8.decode s i).2)))
      by_cases ha : (s[i]'hlt).toNat < 128
      · obtain ⟨x, hx⟩ : ∃ x : UInt8, s[i]'hlt = x := ⟨_, rfl⟩
        rw [decode_ascii s i hlt ha] at hnx HN2 HB2
        rw [hx] at ha hnx
        have hxl : s.data.toList[i]? = some x := by rw [← hx]; exact Lib.data_getElem? s i hlt
        have HXL := Aside0.mk hxl
        have HIR := Aside0.mk (fun (W : World) => Tryz.strings_IndexRune_ascii ⟨#[32, 40, 41]⟩ (x.toNat : Int) W (by omega) (by omega))
        rw [show (Int.toNat (x.toNat : Int)).toUInt8 = x by simp, show (ByteArray.mk #[32, 40, 41]).data.toList = [32, 40, 41] from rfl] at HIR
        have hcon := Lib.contains_iff_indexByte [32, 40, 41] x
        clear hx hxl ha HX HB
        simp only at hnx HN2 HB2
        generalize Lib.indexByte [32, 40, 41] x = ix at *
        cases hin : [32, 40, 41].contains x with
        | false =>
          rw [hin] at hcon
          have hneg : ¬ (0 : Int) ≤ ix := of_decide_eq_false hcon.symm
          clear hcon
          go_wp2_with fail
          generalize itSet wr w2.heap.size s (i + 1) = w4 at *
          refine (HIR.out _).mono ?_
          rintro E w5 ⟨rfl, rfl⟩
          go_wp2
          go_roundg (s.size - (i + 1))
          case measure => omega
          case rel => exact ⟨i + 1, by omega, by omega, HN2, HB2, ⟨(HN.out).succ HXL.out hin⟩⟩
        | true =>
          rw [hin] at hcon
          have hpos : (0 : Int) ≤ ix := of_decide_eq_true hcon.symm
          clear hcon
          have HH := Aside0.mk (Lib.indexAny_hit HN.out HXL.out hin)
          go_wp2_with fail
          generalize itSet wr w2.heap.size s (i + 1) = w4 at *
          refine (HIR.out _).mono ?_
          rintro E w5 ⟨rfl, rfl⟩
          go_wp2
          go_ret
          exact ⟨by rw [HH.out]; rfl, HB2.out⟩
      · have hd := decode_high s i hlt (by omega)
        have hle := decode_le s i
        have HBY := Aside0.mk (decode_bytes s i hlt (by omega))
        have HNX := Aside0.mk (noAny_rune HN.out HBY.out)
        have HW := Aside0.mk (show i + (Utf8.decode s i).2 ≤ s.size by
          have h1 := (HBY.out ((Utf8.decode s i).2 - 1) (by omega)).1
          omega)
        have hd2 := hd.2
        have hd1 : (128 : Int) ≤ ((Utf8.decode s i).1 : Int) := by omega
        have HIR := Aside0.mk (fun (W : World) => irune_calls ((Utf8.decode s i).1 : Int) hd1 (by omega) W)
        clear ha hd hle HX HB hd1 HBY
        generalize (Utf8.decode s i).1 = rn at *
        generalize (Utf8.decode s i).2 = wd at *
        go_wp2_with fail
        generalize itSet wr w2.heap.size s (i + wd) = w4 at *
        refine (HIR.out _).mono ?_
        rintro E w5 ⟨rfl, hb⟩
        have HX5 := Aside0.mk (blk_below HN2.out hb)
        have HB5 := Aside0.mk (Below.trans HB2.out (Below.mono hb (Nat.le_of_lt (blk_lt HN2.out))))
        clear hb
        go_wp2
        go_roundg (s.size - (i + wd))
        case measure => omega
        case rel => exact ⟨i + wd, HW.out, by omega, HX5, HB5, HNX⟩
    · obtain rfl : i = s.size := by omega
      have hnx := fun ty => run_next_blk_end (P := Tryz.prog) wr w2.heap.size s s.size ty HX.out hlt
      go_wp2
      go_ret
      exact ⟨by rw [Lib.indexAny_none (by rw [← Lib.size_eq]; exact HN.out)]; rfl, HB.out⟩
end Go.Proofs.YthflpbgloeimfaaGreatDoor.H
namespace Go.Proofs.YthflpbgloeimfaaGreatDoor.H
open Go.RowKit Go.Proofs.YthflpbgloeimfaaGreatDoorW.PrintWords Go.Proofs.YthflpbgloeimfaaGreatDoorW.PrintLast Go.Proofs.YthflpbgloeimfaaGreatDoorW.PrintMore
open Go.Proofs.YthflpbgloeimfaaGreatDoor.Q (S47 k47 rd_T47 z47 at_T47 S50 k50 rd_T50 z50 at_T50 S52 k52 rd_T52 at_T52 z52 S71 k71 rd_T71 at_T71)
set_option linter.unusedVariables false
set_option linter.unusedSimpArgs false
theorem bb_new (W : World) : BB W.heap.size W.heap.size [] (W.alloc (.cells #[.pointer none, .slice none 0 0] 69)) :=
  .inl ⟨Nat.le_refl _, .slice none 0 0, blk_new W _, ⟨rfl, .inl ⟨rfl, rfl⟩⟩, fun h => by cases h⟩
def sputV (t : S47) : List UInt8 × Int := if srtB t then (srtS t, 0) else ([], 6)
set_option maxHeartbeats 8000000 in
set_option maxRecDepth 100000 in
theorem sput_calls (t : S47) (A : Option Addr) (c : Nat) (w : World) (hC : Kd.C k47 w A t.f0.length t.f0) (hc : t.f0.length ≤ c) :
    Calls Tryz.prog 46 #[.agg #[.slice A t.f0.length c]] w fun E w' => E = .returned (.tuple #[.string ⟨(sputV t).1.toArray⟩, .int .i64 (sputV t).2]) ∧ Below w.heap.size w w' := by
  have HS := Aside0.mk fun W (hW : Below w.heap.size w W) => scheck_calls t A c W (Kd.C_below hC hW) hc
  have HC := Aside0.mk hC
  have HL := Aside0.mk hc
  have HB := Aside0.mk (below_alloc (Below.refl w.heap.size w) (.cells #[.slice A t.f0.length c] 47))
  have HX := Aside0.mk (blk_new w (.cells #[.slice A t.f0.length c] 47))
  clear hC hc
  go_enter Tryz.func46, Tryz.ntmps46
  go_upto_region 1 with (fail)
  generalize w.alloc (.cells #[.slice A t.f0.length c] 47) = W1 at *
  have p0 : W1.cell? ⟨w.heap.size, 0, none⟩ = some (.slice A t.f0.length c) := (blk_cell HX.out 0).trans rfl
  go_wp2_with fail
  refine (HS.out W1 HB.out).mono ?_
  rintro E w2 ⟨rfl, hb⟩
  have HB2 := Aside0.mk (below_then HB.out (HB.out).size hb)
  have HX2 := Aside0.mk (blk_below HX.out hb)
  clear hb p0 HS HB HX
  have p0 : w2.cell? ⟨w.heap.size, 0, none⟩ = some (.slice A t.f0.length c) := (blk_cell HX2.out 0).trans rfl
  cases q : srtB t with
  | false =>
    have HV := Aside0.mk (show sputV t = ([], 6) by unfold sputV; rw [q]; rfl)
    rw [show schkV t = 6 by unfold schkV; rw [q]; rfl]
    clear q
    go_wp2
    go_ret2
    exact ⟨by rw [HV.out]; rfl, HB2.out⟩
  | true =>
    have HV := Aside0.mk (show sputV t = (srtS t, 0) by unfold sputV; rw [q]; rfl)
    have HN := Aside0.mk (srtB_N q)
    rw [show schkV t = 0 by unfold schkV; rw [q]; rfl]
    clear q p0
    go_upto_region 5 with (fail)
    have HW := Aside0.mk (WS.mk (w0 := w) (W := w2) (below_alloc HB2.out (.cells #[.pointer none, .slice none 0 0] 69)) (below_alloc (Below.refl _ _) (.cells #[.pointer none, .slice none 0 0] 69)) (KB.below (below_alloc (Below.refl _ _) (.cells #[.pointer none, .slice none 0 0] 69))) (bb_new w2) (by simp))
    have HX3 := Aside0.mk (blk_alloc HX2.out (.cells #[.pointer none, .slice none 0 0] 69))
    have HSZ := Aside0.mk (show w.heap.size ≤ w2.heap.size from (HB2.out).size)
    generalize w2.alloc (.cells #[.pointer none, .slice none 0 0] 69) = w3 at *
    generalize w2.heap.size = b at *
    have p0 : w3.cell? ⟨w.heap.size, 0, none⟩ = some (.slice A t.f0.length c) := (blk_cell HX3.out 0).trans rfl
    have HWR := Aside0.mk (swrite_calls w b HSZ.out 60 t HN.out (by omega) A c [] w3 HC.out HL.out (HW.out).hb0 (HW.out).bb (HW.out).lt (by have := HN.out; simp only [List.length_nil]; omega))
    go_wp2_with fail
    refine (HWR.out).mono ?_
    rintro E w4 ⟨rfl, hw⟩
    rw [List.nil_append] at hw
    have HW4 := Aside0.mk ((HW.out).write HSZ.out hw)
    clear hw p0 HWR HW HX3
    have HSTR := Aside0.mk (Tryz.Builder_String_any b b (srtS t) w4 (HW4.out).bb (Nat.le_of_lt (HW4.out).lt))
    go_wp2_with fail
    refine (HSTR.out).mono ?_
    rintro E w5 ⟨rfl, hb⟩
    have HB5 := Aside0.mk (Below.trans (HW4.out).hb0 (Below.mono hb HSZ.out))
    clear hb HSTR
    go_wp2
    go_ret2
    exact ⟨by rw [HV.out]; rfl, HB5.out⟩
mutual
def tIn (ny nf np : Nat) : S50 → Prop
  | ⟨k, n, l⟩ => ((k = 0 ∧ 0 ≤ n ∧ n < (np : Int)) ∨ (k = 1 ∧ 0 ≤ n ∧ n < (nf : Int)) ∨ (k = 2 ∧ 0 ≤ n ∧ n < (ny : Int))) ∧ tInL ny nf np l
def tInL (ny nf np : Nat) : List S50 → Prop
  | [] => True
  | a :: r => tIn ny nf np a ∧ tInL ny nf np r
end
theorem tInL_mem {ny nf np : Nat} {l : List S50} (h : tInL ny nf np l) {a : S50} (ha : a ∈ l) : tIn ny nf np a := by
  induction l with
  | nil => cases ha
  | cons x r ih =>
    rw [tInL] at h
    rcases List.mem_cons.1 ha with rfl | ha
    · exact h.1
    · exact ih h.2 ha
theorem tInL_of {ny nf np : Nat} {l : List S50} (h : ∀ a ∈ l, tIn ny nf np a) : tInL ny nf np l := by
  induction l with
  | nil => rw [tInL]; trivial
  | cons x r ih => rw [tInL]; exact ⟨h x (List.mem_cons_self ..), ih fun a ha => h a (List.mem_cons_of_mem _ ha)⟩
theorem argsV_mem {sy : List S71} {fu pa : List S47} : ∀ {l : List S50} {s : List S47}, argsV sy fu pa l s = true → ∀ a ∈ l, ∃ x, ofV sy fu pa a = some x
  | [], s, _, a, ha => by cases ha
  | b :: r, s, h, a, ha => by
    rw [argsV_cons, Bool.and_eq_true] at h
    rcases List.mem_cons.1 ha with rfl | ha
    · have h1 := h.1
      unfold argOk at h1
      cases e : ofV sy fu pa a with
      | none => rw [e] at h1; cases h1
      | some x => exact ⟨x, rfl⟩
    · exact argsV_mem h.2 a ha
theorem ofV_in_aux {sy : List S71} {fu pa : List S47} (N : Nat) : ∀ (t : S50) (x : List S47), tN t ≤ N → ofV sy fu pa t = some x → tIn sy.length fu.length pa.length t := by
  induction N with
  | zero => intro t x h; have := tN_pos t; omega
  | succ N ih =>
    intro t x h hv
    obtain ⟨k, n, l⟩ := t
    rw [tN] at h
    rw [ofV] at hv
    rw [tIn]
    cases e : headV sy fu pa k n with
    | none => rw [e] at hv; cases hv
    | some s =>
      rw [e] at hv
      simp only at hv
      refine ⟨?_, tInL_of fun a ha => ?_⟩
      · unfold headV at e
        by_cases h0 : n < 0
        · rw [if_pos h0] at e; cases e
        rw [if_neg h0] at e
        by_cases h1 : k = 0
        · rw [if_pos h1] at e
          by_cases h2 : n < (pa.length : Int)
          · exact .inl ⟨h1, by omega, h2⟩
          · rw [if_neg h2] at e; cases e
        rw [if_neg h1] at e
        by_cases h1 : k = 1
        · rw [if_pos h1] at e
          by_cases h2 : n < (fu.length : Int)
          · exact .inr (.inl ⟨h1, by omega, h2⟩)
          · rw [if_neg h2] at e; cases e
        rw [if_neg h1] at e
        by_cases h1 : k = 2
        · rw [if_pos h1] at e
          by_cases h2 : n < (sy.length : Int)
          · exact .inr (.inr ⟨h1, by omega, h2⟩)
          · rw [if_neg h2] at e; cases e
        · rw [if_neg h1] at e; cases e
      · split at hv
        · cases hv
        · split at hv
          · rename_i h3
            obtain ⟨y, hy⟩ := argsV_mem h3 a ha
            exact ih a y (by have := tN_mem ha; omega) hy
          · cases hv
theorem ofV_in {sy : List S71} {fu pa : List S47} {t : S50} {x : List S47} (hv : ofV sy fu pa t = some x) : tIn sy.length fu.length pa.length t := ofV_in_aux _ t x (Nat.le_refl _) hv
theorem hdS_len {sy : List S71} {fs : List S52} {np : Nat} (hy : ∀ x ∈ sy, x.f0.size ≤ 24) (hf : ∀ f ∈ fs, f.f0.size ≤ 24) (hp : np ≤ 100) {k n : Int} (h : (k = 0 ∧ 0 ≤ n ∧ n < (np : Int)) ∨ (k = 1 ∧ 0 ≤ n ∧ n < (fs.length : Int)) ∨ (k = 2 ∧ 0 ≤ n ∧ n < (sy.length : Int))) : (hdS sy fs k n).length ≤ 27 := by
  unfold hdS
  rcases h with ⟨rfl, h1, h2⟩ | ⟨rfl, h1, h2⟩ | ⟨rfl, h1, h2⟩
  · rw [if_pos rfl, List.length_cons]
    have := dg_len (n := n.toNat) (by omega)
    omega
  · rw [if_neg (by decide), if_pos rfl]
    obtain ⟨j, rfl⟩ := Int.eq_ofNat_of_zero_le h1
    rw [rdF_at (by omega)]
    have := hf _ (List.getElem_mem (show j < fs.length by omega))
    rw [Lib.size_eq] at this
    omega
  · rw [if_neg (by decide), if_neg (by decide), List.length_cons]
    obtain ⟨j, rfl⟩ := Int.eq_ofNat_of_zero_le h1
    rw [rdY_at (by omega)]
    have := hy _ (List.getElem_mem (show j < sy.length by omega))
    rw [Lib.size_eq] at this
    omega
theorem trmS_len {sy : List S71} {fs : List S52} {np : Nat} (hy : ∀ x ∈ sy, x.f0.size ≤ 24) (hf : ∀ f ∈ fs, f.f0.size ≤ 24) (hp : np ≤ 100) (N : Nat) : ∀ t : S50, tN t ≤ N → tIn sy.length fs.length np t → (trmS (hdS sy fs) t).length + 3 ≤ 30 * tN t := by
  induction N with
  | zero => intro t h; have := tN_pos t; omega
  | succ N ih =>
    intro t h hin
    obtain ⟨k, n, l⟩ := t
    rw [tN] at h ⊢
    rw [tIn] at hin
    rw [trmS, List.length_append]
    have hl : ∀ l : List S50, tNL l ≤ N → (∀ a ∈ l, tIn sy.length fs.length np a) → (trmSL (hdS sy fs) l).length ≤ 30 * tNL l := by
      intro l
      induction l with
      | nil => intro _ _; simp [trmSL]
      | cons a r ihr =>
        intro h hr
        rw [tNL] at h ⊢
        rw [trmSL, List.length_cons, List.length_append]
        have h1 := ih a (by omega) (hr a (List.mem_cons_self ..))
        have h2 := ihr (by omega) (fun x hx => hr x (List.mem_cons_of_mem _ hx))
        have h3 := wrapT_len a (trmS (hdS sy fs) a)
        omega
    have h1 := hl l (by omega) (fun a ha => tInL_mem hin.2 ha)
    have h2 := hdS_len hy hf hp hin.1
    omega
theorem trmSL_len {sy : List S71} {fs : List S52} {np : Nat} (hy : ∀ x ∈ sy, x.f0.size ≤ 24) (hf : ∀ f ∈ fs, f.f0.size ≤ 24) (hp : np ≤ 100) : ∀ l : List S50, (∀ a ∈ l, tIn sy.length fs.length np a) → (trmSL (hdS sy fs) l).length ≤ 30 * tNL l
  | [], _ => by simp [trmSL]
  | a :: r, hr => by
    rw [trmSL, tNL, List.length_cons, List.length_append]
    have h1 := trmS_len hy hf hp _ a (Nat.le_refl _) (hr a (List.mem_cons_self ..))
    have h2 := trmSL_len hy hf hp r (fun x hx => hr x (List.mem_cons_of_mem _ hx))
    have h3 := wrapT_len a (trmS (hdS sy fs) a)
    omega
structure TW (w0 W : World) (b : Nat) (acc : List UInt8) (b4 : Nat) (s1 s2 : Value) (b5 : Nat) (x y z : Value) (W1 : World) : Prop where
  ws : WS w0 W b acc W1
  h4 : W1.heap[b4]? = some (.cells #[s1, s2] 25 (0, 0))
  h5 : W1.heap[b5]? = some (.cells #[x, y, z] 50 (0, 0))
  n4 : b4 ≠ b
  n5 : b5 ≠ b
theorem TW.write {w0 W : World} {b : Nat} {acc acc1 : List UInt8} {b4 : Nat} {s1 s2 : Value} {b5 : Nat} {x y z : Value} {W1 W2 : World} (h : TW w0 W b acc b4 s1 s2 b5 x y z W1) (h0 : w0.heap.size ≤ b) (hw : WrE b acc1 W1 W2) : TW w0 W b acc1 b4 s1 s2 b5 x y z W2 :=
  ⟨h.ws.write h0 hw, hw.2.2.keep _ _ _ h.n4 (by decide) h.h4, hw.2.2.keep _ _ _ h.n5 (by decide) h.h5, h.n4, h.n5⟩
theorem TW.below {w0 W : World} {b : Nat} {acc : List UInt8} {b4 : Nat} {s1 s2 : Value} {b5 : Nat} {x y z : Value} {W1 W2 : World} (h : TW w0 W b acc b4 s1 s2 b5 x y z W1) (hb : Below W1.heap.size W1 W2) : TW w0 W b acc b4 s1 s2 b5 x y z W2 :=
  ⟨h.ws.below hb, blk_below h.h4 hb, blk_below h.h5 hb, h.n4, h.n5⟩
theorem TW.cells {w0 W : World} {b : Nat} {acc : List UInt8} {b4 : Nat} {s1 s2 : Value} {b5 : Nat} {x y z : Value} {W1 : World} (h : TW w0 W b acc b4 s1 s2 b5 x y z W1) : (W1.cell? ⟨b4, 0, none⟩ = some s1 ∧ W1.cell? ⟨b4, 1, none⟩ = some s2) ∧ W1.cell? ⟨b5, 0, none⟩ = some x ∧ W1.cell? ⟨b5, 1, none⟩ = some y ∧ W1.cell? ⟨b5, 2, none⟩ = some z :=
  ⟨⟨(blk_cell h.h4 0).trans rfl, (blk_cell h.h4 1).trans rfl⟩, (blk_cell h.h5 0).trans rfl, (blk_cell h.h5 1).trans rfl, (blk_cell h.h5 2).trans rfl⟩
theorem ba_eq {a : ByteArray} {l : List UInt8} (h : a.data.toList = l) : a = ⟨l.toArray⟩ := by
  cases a with
  | mk d => cases d with
    | mk x => simp at h; rw [h]
set_option maxHeartbeats 16000000 in
set_option maxRecDepth 100000 in
theorem twrite_calls (sy : List S71) (fs : List S52) (A1 A2 : Option Addr) (c1 c2 np : Nat) (w0 : World) (h1 : Kd.C k71 w0 A1 sy.length sy) (h2 : Kd.C k52 w0 A2 fs.length fs) (hy : ∀ x ∈ sy, x.f0.size ≤ 24) (hf : ∀ f ∈ fs, f.f0.size ≤ 24) (hp : np ≤ 100) (b : Nat) (hb0 : w0.heap.size ≤ b) (N : Nat) :
    ∀ (t : S50), tN t ≤ N → N ≤ 1000000 → tIn sy.length fs.length np t → ∀ (A : Option Addr) (c : Nat) (acc : List UInt8) (W : World), Kd.C k50 w0 A t.f2.length t.f2 → t.f2.length ≤ c → Below w0.heap.size w0 W → BB b b acc W → b < W.heap.size → acc.length + 30 * tN t ≤ 1000000000000 →
    Calls Tryz.prog 47 #[.pointer (some ⟨b, 0, none⟩), .agg #[.slice A1 sy.length c1, .slice A2 fs.length c2], .agg #[.int .i64 t.f0, .int .i64 t.f1, .slice A t.f2.length c]] W fun E W' => E = .returned (.tuple #[]) ∧ WrE b (acc ++ trmS (hdS sy fs) t) W W' := by
  induction N with
  | zero => intro t h; have := tN_pos t; omega
  | succ N ih =>
    intro t hN hM hin A c acc W hC hc hB hBB hlt0 hlen
    obtain ⟨k, n, l⟩ := t
    rw [tN] at hN hlen
    rw [tIn] at hin
    have HHL := Aside0.mk (hdS_len hy hf hp hin.1)
    have HIN := Aside0.mk hin
    have HTL := Aside0.mk (fun j => trmSL_len hy hf hp (l.take j) (fun a ha => tInL_mem hin.2 (List.mem_of_mem_take ha)))
    have HTI := Aside0.mk (fun (a : S50) (ha : a ∈ l) => (tInL_mem hin.2 ha))
    have HTLL := Aside0.mk (fun (a : S50) (ha : a ∈ l) => trmS_len hy hf hp _ a (Nat.le_refl _) (tInL_mem hin.2 ha))
    have H1 := Aside0.mk h1
    have H2 := Aside0.mk h2
    have HP := Aside0.mk hp
    have H0 := Aside0.mk hb0
    have HC := Aside0.mk hC
    have IH := Aside0.mk ih
    have HD := Aside0.mk (show tNL l ≤ N ∧ N ≤ 1000000 ∧ acc.length + 30 * (tNL l + 1) ≤ 1000000000000 from ⟨by omega, by omega, hlen⟩)
    have HLEN := Aside0.mk (show l.length ≤ 1000000 from by have := tLen_le (l := l); omega)
    have HW := Aside0.mk (TW.mk ((WS.mk hB (Below.refl _ _) (KB.refl _ _) hBB hlt0).below (below_alloc (below_alloc (Below.refl W.heap.size W) (.cells #[.slice A1 sy.length c1, .slice A2 fs.length c2] 25)) (.cells #[.int .i64 k, .int .i64 n, .slice A l.length c] 50))) (blk_alloc (blk_new W (.cells #[.slice A1 sy.length c1, .slice A2 fs.length c2] 25)) (.cells #[.int .i64 k, .int .i64 n, .slice A l.length c] 50)) (blk_at2 W (.cells #[.slice A1 sy.length c1, .slice A2 fs.length c2] 25) (.cells #[.int .i64 k, .int .i64 n, .slice A l.length c] 50)) (by omega) (by omega))
    clear h1 h2 hy hf hp hb0 hC ih hN hM hc hB hBB hlt0 hlen hin
    show Calls Tryz.prog 47 #[.pointer (some ⟨b, 0, none⟩), .agg #[.slice A1 sy.length c1, .slice A2 fs.length c2], .agg #[.int .i64 k, .int .i64 n, .slice A l.length c]] W fun E W' => E = .returned (.tuple #[]) ∧ WrE b (acc ++ trmS (hdS sy fs) ⟨k, n, l⟩) W W'
    have HG := Aside0.mk (show acc ++ trmS (hdS sy fs) ⟨k, n, l⟩ = (acc ++ hdS sy fs k n) ++ trmSL (hdS sy fs) l by rw [trmS, List.append_assoc])
    go_enter Tryz.func47, Tryz.ntmps47
    go_upto_region 1 with (fail)
    generalize ((W.alloc (.cells #[.slice A1 sy.length c1, .slice A2 fs.length c2] 25)).alloc (.cells #[.int .i64 k, .int .i64 n, .slice A l.length c] 50)) = W1 at *
    obtain ⟨⟨p0, p1⟩, q0, q1, q2⟩ := (HW.out).cells
    by_cases hk0 : k = 0
    · have hn : 0 ≤ n ∧ n < 100 := by have := (HIN.out).1; have := HP.out; omega
      have HI := Aside0.mk (fun W => itoa_calls n hn.1 hn.2 W)
      have HHD := Aside0.mk (show hdS sy fs k n = 36 :: dg n.toNat from if_pos hk0)
      have hd : (dg n.toNat).length ≤ 2 := dg_len (by omega)
      subst hk0
      have HWS := Aside0.mk (fun (s : ByteArray) (hs : s.data.toList = 36 :: dg n.toNat) => ws_calls b acc s _ W1 (HW.out).ws.bb hs (by have := HD.out; have := HHL.out; rw [← HHD.out]; omega) (Nat.le_of_lt (HW.out).ws.lt))
      go_wp2_with fail
      refine (HI.out _).mono ?_
      rintro E W5 ⟨rfl, rfl⟩
      go_wp2_with fail
      refine ((HWS.out) _ ?_).mono ?_
      · first | rfl | simp
      rintro E w2 ⟨rfl, hw⟩
      rw [← HHD.out] at hw
      have HW2 := Aside0.mk ((HW.out).write H0.out hw)
      clear hw hd HI HWS HW
      obtain ⟨⟨p0, p1⟩, q0, q1, q2⟩ := (HW2.out).cells
      go_wp2
      have HA2 := Aside0.mk (show (acc ++ hdS sy fs 0 n).length ≤ acc.length + 27 from by have := HHL.out; rw [List.length_append]; omega)
      generalize acc ++ hdS sy fs 0 n = acc2 at *
      clear p0 p1 q0 q1 q2
      go_loopg [42] l.length (fun gg v42 wi => ∃ (j : Nat), j ≤ l.length ∧ l.length - j ≤ gg ∧ v42 = .int .i64 j ∧ Aside0 (TW w0 W b (acc2 ++ trmSL (hdS sy fs) (l.take j)) W.heap.size (.slice A1 sy.length c1) (.slice A2 fs.length c2) (W.heap.size + 1) (.int .i64 0) (.int .i64 n) (.slice A l.length c) wi))
      case atStart => exact ⟨0, by omega, by omega, rfl, ⟨by rw [List.take_zero, trmSL, List.append_nil]; exact HW2.out⟩⟩
      case round =>
        clear HW2
        obtain ⟨j, hj, hgg, rfl, HW⟩ := hrel
        by_cases hlt : j < l.length
        · have hltz : (j : Int) < (l.length : Int) := by omega
          obtain ⟨ad, A9, c9, e, hx0, hx1, hx2, hl9, hC9⟩ := at_T50 HC.out (j : Int) (by omega) hltz
          subst e
          rw [rdT_at hlt] at hx0 hx1 hx2 hl9 hC9
          rw [Int.toNat_natCast] at hx0 hx1 hx2
          replace hx0 := ((HW.out).ws.hb0.cell (World.block_lt_of_cell? w0 _ hx0)).trans hx0
          replace hx1 := ((HW.out).ws.hb0.cell (World.block_lt_of_cell? w0 _ hx1)).trans hx1
          replace hx2 := ((HW.out).ws.hb0.cell (World.block_lt_of_cell? w0 _ hx2)).trans hx2
          have HS := Aside0.mk (show acc2 ++ trmSL (hdS sy fs) (l.take (j + 1)) = (acc2 ++ trmSL (hdS sy fs) (l.take j)) ++ (32 :: wrapT l[j] (trmS (hdS sy fs) l[j])) by rw [takeS hlt, trmSL_snoc, List.append_assoc])
          have HJ := Aside0.mk (show tN l[j] ≤ N ∧ (acc2 ++ trmSL (hdS sy fs) (l.take j)).length + 30 * tN l[j] + 3 ≤ 1000000000000 ∧ (trmS (hdS sy fs) l[j]).length + 3 ≤ 30 * tN l[j] from by
            have h1 := tN_mem (List.getElem_mem hlt)
            have h2 := HTL.out j
            have h3 := tNL_snoc (l.take j) l[j]
            rw [← takeS hlt] at h3
            have h4 := tNL_take l (j + 1)
            have := HD.out
            have := HA2.out
            have h5 := HTLL.out _ (List.getElem_mem hlt)
            rw [List.length_append]
            omega)
          have HTJ := Aside0.mk (HTI.out _ (List.getElem_mem hlt))
          generalize l[j] = u at *
          generalize acc2 ++ trmSL (hdS sy fs) (l.take j) = acc1 at *
          have HC9 := Aside0.mk hC9
          have HL9 := Aside0.mk hl9
          clear hC9 hl9
          go_upto_region 10 with (fail)
          have HW5 := Aside0.mk ((HW.out).below (below_alloc (Below.refl wr.heap.size wr) (.cells #[.int .i64 u.f0, .int .i64 u.f1, .slice A9 u.f2.length c9] 50)))
          have HX5 := Aside0.mk (blk_new wr (.cells #[.int .i64 u.f0, .int .i64 u.f1, .slice A9 u.f2.length c9] 50))
          have HNB := Aside0.mk (show wr.heap.size ≠ b from by have := (HW.out).ws.lt; omega)
          clear HW hx0 hx1 hx2
          generalize (wr.alloc (.cells #[.int .i64 u.f0, .int .i64 u.f1, .slice A9 u.f2.length c9] 50)) = w5 at *
          generalize wr.heap.size = b7 at *
          have HKX := Aside0.mk (fun (W3 : World) (h : W3.heap[b7]? = some (.cells #[.int .i64 u.f0, .int .i64 u.f1, .slice A9 u.f2.length c9] 50 (0, 0))) => (show W3.cell? ⟨b7, 0, none⟩ = some (.int .i64 u.f0) ∧ W3.cell? ⟨b7, 1, none⟩ = some (.int .i64 u.f1) ∧ W3.cell? ⟨b7, 2, none⟩ = some (.slice A9 u.f2.length c9) from ⟨(blk_cell h 0).trans rfl, (blk_cell h 1).trans rfl, (blk_cell h 2).trans rfl⟩))
          have HW32 := Aside0.mk (wb32 b acc1 w5 (HW5.out).ws.bb (by have := (HJ.out).2; omega) (Nat.le_of_lt (HW5.out).ws.lt))
          go_wp2_with fail
          refine (HW32.out).mono ?_
          rintro E w6 ⟨rfl, hw⟩
          have HW6 := Aside0.mk ((HW5.out).write H0.out hw)
          have HX6 := Aside0.mk (hw.2.2.keep _ _ _ HNB.out (by decide) HX5.out)
          clear hw HW5 HX5 HW32
          obtain ⟨m0, m1, m2⟩ := HKX.out _ HX6.out
          obtain ⟨⟨p0, p1⟩, q0, q1, q2⟩ := (HW6.out).cells
          by_cases hz : u.f2.length = 0
          · have hzz : ¬ (u.f2.length : Int) > 0 := by omega
            have HWR := Aside0.mk (show wrapT u (trmS (hdS sy fs) u) = trmS (hdS sy fs) u from if_pos hz)
            have HWI := Aside0.mk (IH.out u (HJ.out).1 (HD.out).2.1 HTJ.out A9 c9 (acc1 ++ [32]) w6 HC9.out HL9.out (HW6.out).ws.hb0 (HW6.out).ws.bb (HW6.out).ws.lt (by have := (HJ.out).2; rw [List.length_append, List.length_singleton]; omega))
            clear hz
            go_wp2_with fail
            refine (HWI.out).mono ?_
            rintro E w7 ⟨rfl, hw⟩
            have HW7 := Aside0.mk ((HW6.out).write H0.out hw)
            have HX7 := Aside0.mk (hw.2.2.keep _ _ _ HNB.out (by decide) HX6.out)
            clear hw HW6 HX6 m0 m1 m2 p0 p1 q0 q1 q2 HWI
            obtain ⟨m0, m1, m2⟩ := HKX.out _ HX7.out
            go_wp2
            go_roundg (l.length - (j + 1))
            case measure => omega
            case rel => exact ⟨j + 1, by omega, by omega, by first | rfl | (rw [wrap_succ (by omega) (by have := HLEN.out; omega)]; rfl), ⟨by rw [HS.out, HWR.out, show acc1 ++ 32 :: trmS (hdS sy fs) u = acc1 ++ [32] ++ trmS (hdS sy fs) u by simp]; exact HW7.out⟩⟩
          · have hzz : (u.f2.length : Int) > 0 := by omega
            have HWR := Aside0.mk (show wrapT u (trmS (hdS sy fs) u) = 40 :: (trmS (hdS sy fs) u ++ [41]) from if_neg hz)
            have HW40 := Aside0.mk (wb40 b (acc1 ++ [32]) w6 (HW6.out).ws.bb (by have := (HJ.out).2; rw [List.length_append, List.length_singleton]; omega) (Nat.le_of_lt (HW6.out).ws.lt))
            clear hz
            go_wp2_with fail
            refine (HW40.out).mono ?_
            rintro E w61 ⟨rfl, hw⟩
            have HW61 := Aside0.mk ((HW6.out).write H0.out hw)
            have HX61 := Aside0.mk (hw.2.2.keep _ _ _ HNB.out (by decide) HX6.out)
            clear hw HW6 HX6 m0 m1 m2 p0 p1 q0 q1 q2 HW40
            obtain ⟨m0, m1, m2⟩ := HKX.out _ HX61.out
            obtain ⟨⟨p0, p1⟩, q0, q1, q2⟩ := (HW61.out).cells
            have HWI := Aside0.mk (IH.out u (HJ.out).1 (HD.out).2.1 HTJ.out A9 c9 (acc1 ++ [32] ++ [40]) w61 HC9.out HL9.out (HW61.out).ws.hb0 (HW61.out).ws.bb (HW61.out).ws.lt (by have := (HJ.out).2; rw [List.length_append, List.length_append]; simp only [List.length_cons, List.length_nil]; omega))
            go_wp2_with fail
            refine (HWI.out).mono ?_
            rintro E w7 ⟨rfl, hw⟩
            have HW7 := Aside0.mk ((HW61.out).write H0.out hw)
            have HX7 := Aside0.mk (hw.2.2.keep _ _ _ HNB.out (by decide) HX61.out)
            clear hw HW61 HX61 m0 m1 m2 p0 p1 q0 q1 q2 HWI
            obtain ⟨m0, m1, m2⟩ := HKX.out _ HX7.out
            have HW41 := Aside0.mk (wb41 b (acc1 ++ [32] ++ [40] ++ trmS (hdS sy fs) u) w7 (HW7.out).ws.bb (by have := (HJ.out).2; rw [List.length_append, List.length_append, List.length_append]; simp only [List.length_cons, List.length_nil]; omega) (Nat.le_of_lt (HW7.out).ws.lt))
            go_wp2_with fail
            refine (HW41.out).mono ?_
            rintro E w8 ⟨rfl, hw⟩
            have HW8 := Aside0.mk ((HW7.out).write H0.out hw)
            clear hw HW7 HX7 m0 m1 m2 HW41
            go_wp2
            go_roundg (l.length - (j + 1))
            case measure => omega
            case rel => exact ⟨j + 1, by omega, by omega, by first | rfl | (rw [wrap_succ (by omega) (by have := HLEN.out; omega)]; rfl), ⟨by rw [HS.out, HWR.out, show acc1 ++ 32 :: 40 :: (trmS (hdS sy fs) u ++ [41]) = acc1 ++ [32] ++ [40] ++ trmS (hdS sy fs) u ++ [41] by simp]; exact HW8.out⟩⟩
        · have hltz : ¬ (j : Int) < (l.length : Int) := by omega
          have hje : j = l.length := by omega
          subst hje
          rw [List.take_length] at HW
          go_wp2
          go_end0
          exact ⟨rfl, by rw [HG.out]; exact (HW.out).ws.wr⟩
    by_cases hk1 : k = 1
    · have hn : 0 ≤ n ∧ n < (fs.length : Int) := by have := (HIN.out).1; omega
      obtain ⟨ad, As, cs, At, ct, e, hx0, hx1, hx2, hx3, hx4, hls, hCs, hlt4, hCt⟩ := at_T52 (H2.out) n hn.1 hn.2
      subst e
      replace hx0 := ((HW.out).ws.hb0.cell (World.block_lt_of_cell? w0 _ hx0)).trans hx0
      have HHD := Aside0.mk (show hdS sy fs k n = (rd_T52 fs n).f0.data.toList from by unfold hdS; rw [if_neg hk0, if_pos hk1])
      have HWS := Aside0.mk (ws_calls b acc (rd_T52 fs n).f0 (hdS sy fs k n) W1 (HW.out).ws.bb HHD.out.symm (by have := HD.out; have := HHL.out; omega) (Nat.le_of_lt (HW.out).ws.lt))
      have hn1 := hn.1
      have hn2 := hn.2
      subst hk1
      clear hx1 hx2 hx3 hx4 hls hCs hlt4 hCt hn hk0
      go_wp2_with fail
      refine (HWS.out).mono ?_
      rintro E w2 ⟨rfl, hw⟩
      have HW2 := Aside0.mk ((HW.out).write H0.out hw)
      clear hw HWS HW hx0 hn1 hn2 p0 p1 q0 q1 q2
      obtain ⟨⟨p0, p1⟩, q0, q1, q2⟩ := (HW2.out).cells
      go_wp2
      have HA2 := Aside0.mk (show (acc ++ hdS sy fs 1 n).length ≤ acc.length + 27 from by have := HHL.out; rw [List.length_append]; omega)
      generalize acc ++ hdS sy fs 1 n = acc2 at *
      clear p0 p1 q0 q1 q2
      go_loopg [42] l.length (fun gg v42 wi => ∃ (j : Nat), j ≤ l.length ∧ l.length - j ≤ gg ∧ v42 = .int .i64 j ∧ Aside0 (TW w0 W b (acc2 ++ trmSL (hdS sy fs) (l.take j)) W.heap.size (.slice A1 sy.length c1) (.slice (some ad) fs.length c2) (W.heap.size + 1) (.int .i64 1) (.int .i64 n) (.slice A l.length c) wi))
      case atStart => exact ⟨0, by omega, by omega, rfl, ⟨by rw [List.take_zero, trmSL, List.append_nil]; exact HW2.out⟩⟩
      case round =>
        clear HW2
        obtain ⟨j, hj, hgg, rfl, HW⟩ := hrel
        by_cases hlt : j < l.length
        · have hltz : (j : Int) < (l.length : Int) := by omega
          obtain ⟨ad, A9, c9, e, hx0, hx1, hx2, hl9, hC9⟩ := at_T50 HC.out (j : Int) (by omega) hltz
          subst e
          rw [rdT_at hlt] at hx0 hx1 hx2 hl9 hC9
          rw [Int.toNat_natCast] at hx0 hx1 hx2
          replace hx0 := ((HW.out).ws.hb0.cell (World.block_lt_of_cell? w0 _ hx0)).trans hx0
          replace hx1 := ((HW.out).ws.hb0.cell (World.block_lt_of_cell? w0 _ hx1)).trans hx1
          replace hx2 := ((HW.out).ws.hb0.cell (World.block_lt_of_cell? w0 _ hx2)).trans hx2
          have HS := Aside0.mk (show acc2 ++ trmSL (hdS sy fs) (l.take (j + 1)) = (acc2 ++ trmSL (hdS sy fs) (l.take j)) ++ (32 :: wrapT l[j] (trmS (hdS sy fs) l[j])) by rw [takeS hlt, trmSL_snoc, List.append_assoc])
          have HJ := Aside0.mk (show tN l[j] ≤ N ∧ (acc2 ++ trmSL (hdS sy fs) (l.take j)).length + 30 * tN l[j] + 3 ≤ 1000000000000 ∧ (trmS (hdS sy fs) l[j]).length + 3 ≤ 30 * tN l[j] from by
            have h1 := tN_mem (List.getElem_mem hlt)
            have h2 := HTL.out j
            have h3 := tNL_snoc (l.take j) l[j]
            rw [← takeS hlt] at h3
            have h4 := tNL_take l (j + 1)
            have := HD.out
            have := HA2.out
            have h5 := HTLL.out _ (List.getElem_mem hlt)
            rw [List.length_append]
            omega)
          have HTJ := Aside0.mk (HTI.out _ (List.getElem_mem hlt))
          generalize l[j] = u at *
          generalize acc2 ++ trmSL (hdS sy fs) (l.take j) = acc1 at *
          have HC9 := Aside0.mk hC9
          have HL9 := Aside0.mk hl9
          clear hC9 hl9
          go_upto_region 10 with (fail)
          have HW5 := Aside0.mk ((HW.out).below (below_alloc (Below.refl wr.heap.size wr) (.cells #[.int .i64 u.f0, .int .i64 u.f1, .slice A9 u.f2.length c9] 50)))
          have HX5 := Aside0.mk (blk_new wr (.cells #[.int .i64 u.f0, .int .i64 u.f1, .slice A9 u.f2.length c9] 50))
          have HNB := Aside0.mk (show wr.heap.size ≠ b from by have := (HW.out).ws.lt; omega)
          clear HW hx0 hx1 hx2
          generalize (wr.alloc (.cells #[.int .i64 u.f0, .int .i64 u.f1, .slice A9 u.f2.length c9] 50)) = w5 at *
          generalize wr.heap.size = b7 at *
          have HKX := Aside0.mk (fun (W3 : World) (h : W3.heap[b7]? = some (.cells #[.int .i64 u.f0, .int .i64 u.f1, .slice A9 u.f2.length c9] 50 (0, 0))) => (show W3.cell? ⟨b7, 0, none⟩ = some (.int .i64 u.f0) ∧ W3.cell? ⟨b7, 1, none⟩ = some (.int .i64 u.f1) ∧ W3.cell? ⟨b7, 2, none⟩ = some (.slice A9 u.f2.length c9) from ⟨(blk_cell h 0).trans rfl, (blk_cell h 1).trans rfl, (blk_cell h 2).trans rfl⟩))
          have HW32 := Aside0.mk (wb32 b acc1 w5 (HW5.out).ws.bb (by have := (HJ.out).2; omega) (Nat.le_of_lt (HW5.out).ws.lt))
          go_wp2_with fail
          refine (HW32.out).mono ?_
          rintro E w6 ⟨rfl, hw⟩
          have HW6 := Aside0.mk ((HW5.out).write H0.out hw)
          have HX6 := Aside0.mk (hw.2.2.keep _ _ _ HNB.out (by decide) HX5.out)
          clear hw HW5 HX5 HW32
          obtain ⟨m0, m1, m2⟩ := HKX.out _ HX6.out
          obtain ⟨⟨p0, p1⟩, q0, q1, q2⟩ := (HW6.out).cells
          by_cases hz : u.f2.length = 0
          · have hzz : ¬ (u.f2.length : Int) > 0 := by omega
            have HWR := Aside0.mk (show wrapT u (trmS (hdS sy fs) u) = trmS (hdS sy fs) u from if_pos hz)
            have HWI := Aside0.mk (IH.out u (HJ.out).1 (HD.out).2.1 HTJ.out A9 c9 (acc1 ++ [32]) w6 HC9.out HL9.out (HW6.out).ws.hb0 (HW6.out).ws.bb (HW6.out).ws.lt (by have := (HJ.out).2; rw [List.length_append, List.length_singleton]; omega))
            clear hz
            go_wp2_with fail
            refine (HWI.out).mono ?_
            rintro E w7 ⟨rfl, hw⟩
            have HW7 := Aside0.mk ((HW6.out).write H0.out hw)
            have HX7 := Aside0.mk (hw.2.2.keep _ _ _ HNB.out (by decide) HX6.out)
            clear hw HW6 HX6 m0 m1 m2 p0 p1 q0 q1 q2 HWI
            obtain ⟨m0, m1, m2⟩ := HKX.out _ HX7.out
            go_wp2
            go_roundg (l.length - (j + 1))
            case measure => omega
            case rel => exact ⟨j + 1, by omega, by omega, by first | rfl | (rw [wrap_succ (by omega) (by have := HLEN.out; omega)]; rfl), ⟨by rw [HS.out, HWR.out, show acc1 ++ 32 :: trmS (hdS sy fs) u = acc1 ++ [32] ++ trmS (hdS sy fs) u by simp]; exact HW7.out⟩⟩
          · have hzz : (u.f2.length : Int) > 0 := by omega
            have HWR := Aside0.mk (show wrapT u (trmS (hdS sy fs) u) = 40 :: (trmS (hdS sy fs) u ++ [41]) from if_neg hz)
            have HW40 := Aside0.mk (wb40 b (acc1 ++ [32]) w6 (HW6.out).ws.bb (by have := (HJ.out).2; rw [List.length_append, List.length_singleton]; omega) (Nat.le_of_lt (HW6.out).ws.lt))
            clear hz
            go_wp2_with fail
            refine (HW40.out).mono ?_
            rintro E w61 ⟨rfl, hw⟩
            have HW61 := Aside0.mk ((HW6.out).write H0.out hw)
            have HX61 := Aside0.mk (hw.2.2.keep _ _ _ HNB.out (by decide) HX6.out)
            clear hw HW6 HX6 m0 m1 m2 p0 p1 q0 q1 q2 HW40
            obtain ⟨m0, m1, m2⟩ := HKX.out _ HX61.out
            obtain ⟨⟨p0, p1⟩, q0, q1, q2⟩ := (HW61.out).cells
            have HWI := Aside0.mk (IH.out u (HJ.out).1 (HD.out).2.1 HTJ.out A9 c9 (acc1 ++ [32] ++ [40]) w61 HC9.out HL9.out (HW61.out).ws.hb0 (HW61.out).ws.bb (HW61.out).ws.lt (by have := (HJ.out).2; rw [List.length_append, List.length_append]; simp only [List.length_cons, List.length_nil]; omega))
            go_wp2_with fail
            refine (HWI.out).mono ?_
            rintro E w7 ⟨rfl, hw⟩
            have HW7 := Aside0.mk ((HW61.out).write H0.out hw)
            have HX7 := Aside0.mk (hw.2.2.keep _ _ _ HNB.out (by decide) HX61.out)
            clear hw HW61 HX61 m0 m1 m2 p0 p1 q0 q1 q2 HWI
            obtain ⟨m0, m1, m2⟩ := HKX.out _ HX7.out
            have HW41 := Aside0.mk (wb41 b (acc1 ++ [32] ++ [40] ++ trmS (hdS sy fs) u) w7 (HW7.out).ws.bb (by have := (HJ.out).2; rw [List.length_append, List.length_append, List.length_append]; simp only [List.length_cons, List.length_nil]; omega) (Nat.le_of_lt (HW7.out).ws.lt))
            go_wp2_with fail
            refine (HW41.out).mono ?_
            rintro E w8 ⟨rfl, hw⟩
            have HW8 := Aside0.mk ((HW7.out).write H0.out hw)
            clear hw HW7 HX7 m0 m1 m2 HW41
            go_wp2
            go_roundg (l.length - (j + 1))
            case measure => omega
            case rel => exact ⟨j + 1, by omega, by omega, by first | rfl | (rw [wrap_succ (by omega) (by have := HLEN.out; omega)]; rfl), ⟨by rw [HS.out, HWR.out, show acc1 ++ 32 :: 40 :: (trmS (hdS sy fs) u ++ [41]) = acc1 ++ [32] ++ [40] ++ trmS (hdS sy fs) u ++ [41] by simp]; exact HW8.out⟩⟩
        · have hltz : ¬ (j : Int) < (l.length : Int) := by omega
          have hje : j = l.length := by omega
          subst hje
          rw [List.take_length] at HW
          go_wp2
          go_end0
          exact ⟨rfl, by rw [HG.out]; exact (HW.out).ws.wr⟩
    · have hk2 : k = 2 := by have := (HIN.out).1; omega
      have hn : 0 ≤ n ∧ n < (sy.length : Int) := by have := (HIN.out).1; omega
      obtain ⟨ad, e, hx0, hx1⟩ := at_T71 (H1.out) n hn.1 hn.2
      subst e
      replace hx0 := ((HW.out).ws.hb0.cell (World.block_lt_of_cell? w0 _ hx0)).trans hx0
      have HHD := Aside0.mk (show hdS sy fs k n = 35 :: (rd_T71 sy n).f0.data.toList from by unfold hdS; rw [if_neg hk0, if_neg hk1])
      have hsz : (rd_T71 sy n).f0.size ≤ 26 := by have := HHL.out; rw [HHD.out, List.length_cons] at this; rw [Lib.size_eq]; omega
      have HWS := Aside0.mk (fun (s : ByteArray) (hs : s.data.toList = 35 :: (rd_T71 sy n).f0.data.toList) => ws_calls b acc s _ W1 (HW.out).ws.bb hs (by have := HD.out; have := HHL.out; rw [← HHD.out]; omega) (Nat.le_of_lt (HW.out).ws.lt))
      have hn1 := hn.1
      have hn2 := hn.2
      subst hk2
      clear hx1 hn hk0 hk1
      go_wp2_with fail
      refine ((HWS.out) _ ?_).mono ?_
      · first | rfl | simp
      rintro E w2 ⟨rfl, hw⟩
      rw [← HHD.out] at hw
      have HW2 := Aside0.mk ((HW.out).write H0.out hw)
      clear hw HWS HW hx0 hn1 hn2 hsz p0 p1 q0 q1 q2
      obtain ⟨⟨p0, p1⟩, q0, q1, q2⟩ := (HW2.out).cells
      go_wp2
      have HA2 := Aside0.mk (show (acc ++ hdS sy fs 2 n).length ≤ acc.length + 27 from by have := HHL.out; rw [List.length_append]; omega)
      generalize acc ++ hdS sy fs 2 n = acc2 at *
      clear p0 p1 q0 q1 q2
      go_loopg [42] l.length (fun gg v42 wi => ∃ (j : Nat), j ≤ l.length ∧ l.length - j ≤ gg ∧ v42 = .int .i64 j ∧ Aside0 (TW w0 W b (acc2 ++ trmSL (hdS sy fs) (l.take j)) W.heap.size (.slice (some ad) sy.length c1) (.slice A2 fs.length c2) (W.heap.size + 1) (.int .i64 2) (.int .i64 n) (.slice A l.length c) wi))
      case atStart => exact ⟨0, by omega, by omega, rfl, ⟨by rw [List.take_zero, trmSL, List.append_nil]; exact HW2.out⟩⟩
      case round =>
        clear HW2
        obtain ⟨j, hj, hgg, rfl, HW⟩ := hrel
        by_cases hlt : j < l.length
        · have hltz : (j : Int) < (l.length : Int) := by omega
          obtain ⟨ad, A9, c9, e, hx0, hx1, hx2, hl9, hC9⟩ := at_T50 HC.out (j : Int) (by omega) hltz
          subst e
          rw [rdT_at hlt] at hx0 hx1 hx2 hl9 hC9
          rw [Int.toNat_natCast] at hx0 hx1 hx2
          replace hx0 := ((HW.out).ws.hb0.cell (World.block_lt_of_cell? w0 _ hx0)).trans hx0
          replace hx1 := ((HW.out).ws.hb0.cell (World.block_lt_of_cell? w0 _ hx1)).trans hx1
          replace hx2 := ((HW.out).ws.hb0.cell (World.block_lt_of_cell? w0 _ hx2)).trans hx2
          have HS := Aside0.mk (show acc2 ++ trmSL (hdS sy fs) (l.take (j + 1)) = (acc2 ++ trmSL (hdS sy fs) (l.take j)) ++ (32 :: wrapT l[j] (trmS (hdS sy fs) l[j])) by rw [takeS hlt, trmSL_snoc, List.append_assoc])
          have HJ := Aside0.mk (show tN l[j] ≤ N ∧ (acc2 ++ trmSL (hdS sy fs) (l.take j)).length + 30 * tN l[j] + 3 ≤ 1000000000000 ∧ (trmS (hdS sy fs) l[j]).length + 3 ≤ 30 * tN l[j] from by
            have h1 := tN_mem (List.getElem_mem hlt)
            have h2 := HTL.out j
            have h3 := tNL_snoc (l.take j) l[j]
            rw [← takeS hlt] at h3
            have h4 := tNL_take l (j + 1)
            have := HD.out
            have := HA2.out
            have h5 := HTLL.out _ (List.getElem_mem hlt)
            rw [List.length_append]
            omega)
          have HTJ := Aside0.mk (HTI.out _ (List.getElem_mem hlt))
          generalize l[j] = u at *
          generalize acc2 ++ trmSL (hdS sy fs) (l.take j) = acc1 at *
          have HC9 := Aside0.mk hC9
          have HL9 := Aside0.mk hl9
          clear hC9 hl9
          go_upto_region 10 with (fail)
          have HW5 := Aside0.mk ((HW.out).below (below_alloc (Below.refl wr.heap.size wr) (.cells #[.int .i64 u.f0, .int .i64 u.f1, .slice A9 u.f2.length c9] 50)))
          have HX5 := Aside0.mk (blk_new wr (.cells #[.int .i64 u.f0, .int .i64 u.f1, .slice A9 u.f2.length c9] 50))
          have HNB := Aside0.mk (show wr.heap.size ≠ b from by have := (HW.out).ws.lt; omega)
          clear HW hx0 hx1 hx2
          generalize (wr.alloc (.cells #[.int .i64 u.f0, .int .i64 u.f1, .slice A9 u.f2.length c9] 50)) = w5 at *
          generalize wr.heap.size = b7 at *
          have HKX := Aside0.mk (fun (W3 : World) (h : W3.heap[b7]? = some (.cells #[.int .i64 u.f0, .int .i64 u.f1, .slice A9 u.f2.length c9] 50 (0, 0))) => (show W3.cell? ⟨b7, 0, none⟩ = some (.int .i64 u.f0) ∧ W3.cell? ⟨b7, 1, none⟩ = some (.int .i64 u.f1) ∧ W3.cell? ⟨b7, 2, none⟩ = some (.slice A9 u.f2.length c9) from ⟨(blk_cell h 0).trans rfl, (blk_cell h 1).trans rfl, (blk_cell h 2).trans rfl⟩))
          have HW32 := Aside0.mk (wb32 b acc1 w5 (HW5.out).ws.bb (by have := (HJ.out).2; omega) (Nat.le_of_lt (HW5.out).ws.lt))
          go_wp2_with fail
          refine (HW32.out).mono ?_
          rintro E w6 ⟨rfl, hw⟩
          have HW6 := Aside0.mk ((HW5.out).write H0.out hw)
          have HX6 := Aside0.mk (hw.2.2.keep _ _ _ HNB.out (by decide) HX5.out)
          clear hw HW5 HX5 HW32
          obtain ⟨m0, m1, m2⟩ := HKX.out _ HX6.out
          obtain ⟨⟨p0, p1⟩, q0, q1, q2⟩ := (HW6.out).cells
          by_cases hz : u.f2.length = 0
          · have hzz : ¬ (u.f2.length : Int) > 0 := by omega
            have HWR := Aside0.mk (show wrapT u (trmS (hdS sy fs) u) = trmS (hdS sy fs) u from if_pos hz)
            have HWI := Aside0.mk (IH.out u (HJ.out).1 (HD.out).2.1 HTJ.out A9 c9 (acc1 ++ [32]) w6 HC9.out HL9.out (HW6.out).ws.hb0 (HW6.out).ws.bb (HW6.out).ws.lt (by have := (HJ.out).2; rw [List.length_append, List.length_singleton]; omega))
            clear hz
            go_wp2_with fail
            refine (HWI.out).mono ?_
            rintro E w7 ⟨rfl, hw⟩
            have HW7 := Aside0.mk ((HW6.out).write H0.out hw)
            have HX7 := Aside0.mk (hw.2.2.keep _ _ _ HNB.out (by decide) HX6.out)
            clear hw HW6 HX6 m0 m1 m2 p0 p1 q0 q1 q2 HWI
            obtain ⟨m0, m1, m2⟩ := HKX.out _ HX7.out
            go_wp2
            go_roundg (l.length - (j + 1))
            case measure => omega
            case rel => exact ⟨j + 1, by omega, by omega, by first | rfl | (rw [wrap_succ (by omega) (by have := HLEN.out; omega)]; rfl), ⟨by rw [HS.out, HWR.out, show acc1 ++ 32 :: trmS (hdS sy fs) u = acc1 ++ [32] ++ trmS (hdS sy fs) u by simp]; exact HW7.out⟩⟩
          · have hzz : (u.f2.length : Int) > 0 := by omega
            have HWR := Aside0.mk (show wrapT u (trmS (hdS sy fs) u) = 40 :: (trmS (hdS sy fs) u ++ [41]) from if_neg hz)
            have HW40 := Aside0.mk (wb40 b (acc1 ++ [32]) w6 (HW6.out).ws.bb (by have := (HJ.out).2; rw [List.length_append, List.length_singleton]; omega) (Nat.le_of_lt (HW6.out).ws.lt))
            clear hz
            go_wp2_with fail
            refine (HW40.out).mono ?_
            rintro E w61 ⟨rfl, hw⟩
            have HW61 := Aside0.mk ((HW6.out).write H0.out hw)
            have HX61 := Aside0.mk (hw.2.2.keep _ _ _ HNB.out (by decide) HX6.out)
            clear hw HW6 HX6 m0 m1 m2 p0 p1 q0 q1 q2 HW40
            obtain ⟨m0, m1, m2⟩ := HKX.out _ HX61.out
            obtain ⟨⟨p0, p1⟩, q0, q1, q2⟩ := (HW61.out).cells
            have HWI := Aside0.mk (IH.out u (HJ.out).1 (HD.out).2.1 HTJ.out A9 c9 (acc1 ++ [32] ++ [40]) w61 HC9.out HL9.out (HW61.out).ws.hb0 (HW61.out).ws.bb (HW61.out).ws.lt (by have := (HJ.out).2; rw [List.length_append, List.length_append]; simp only [List.length_cons, List.length_nil]; omega))
            go_wp2_with fail
            refine (HWI.out).mono ?_
            rintro E w7 ⟨rfl, hw⟩
            have HW7 := Aside0.mk ((HW61.out).write H0.out hw)
            have HX7 := Aside0.mk (hw.2.2.keep _ _ _ HNB.out (by decide) HX61.out)
            clear hw HW61 HX61 m0 m1 m2 p0 p1 q0 q1 q2 HWI
            obtain ⟨m0, m1, m2⟩ := HKX.out _ HX7.out
            have HW41 := Aside0.mk (wb41 b (acc1 ++ [32] ++ [40] ++ trmS (hdS sy fs) u) w7 (HW7.out).ws.bb (by have := (HJ.out).2; rw [List.length_append, List.length_append, List.length_append]; simp only [List.length_cons, List.length_nil]; omega) (Nat.le_of_lt (HW7.out).ws.lt))
            go_wp2_with fail
            refine (HW41.out).mono ?_
            rintro E w8 ⟨rfl, hw⟩
            have HW8 := Aside0.mk ((HW7.out).write H0.out hw)
            clear hw HW7 HX7 m0 m1 m2 HW41
            go_wp2
            go_roundg (l.length - (j + 1))
            case measure => omega
            case rel => exact ⟨j + 1, by omega, by omega, by first | rfl | (rw [wrap_succ (by omega) (by have := HLEN.out; omega)]; rfl), ⟨by rw [HS.out, HWR.out, show acc1 ++ 32 :: 40 :: (trmS (hdS sy fs) u ++ [41]) = acc1 ++ [32] ++ [40] ++ trmS (hdS sy fs) u ++ [41] by simp]; exact HW8.out⟩⟩
        · have hltz : ¬ (j : Int) < (l.length : Int) := by omega
          have hje : j = l.length := by omega
          subst hje
          rw [List.take_length] at HW
          go_wp2
          go_end0
          exact ⟨rfl, by rw [HG.out]; exact (HW.out).ws.wr⟩
end Go.Proofs.YthflpbgloeimfaaGreatDoor.H
namespace Go.Proofs.YthflpbgloeimfaaGreatDoor.H
open Go.RowKit Go.Proofs.YthflpbgloeimfaaGreatDoorW.PrintWords Go.Proofs.YthflpbgloeimfaaGreatDoorW.PrintLast Go.Proofs.YthflpbgloeimfaaGreatDoorW.PrintMore
set_option linter.unusedVariables false
set_option linter.unusedSimpArgs false
theorem info186 : (Tryz.prog.info? 186).map (fun i => (i.zero, i.size)) = some (some (.agg (Array.replicate 256 (.bool false))), 256) := by kernel_rfl
theorem ia_calls (s : ByteArray) (w : World) (hs : s.size ≤ 70000) :
    Calls Tryz.prog 166 #[.string s, .string ⟨#[32, 40, 41]⟩] w fun E w' => E = .returned (.int .i64 (Lib.indexAny s.data.toList [32, 40, 41])) ∧ Below w.heap.size w w' := by
  by_cases h8 : s.size ≤ 8
  · exact iashort_calls s w h8
  · refine (Tryz.strings_IndexAny_long (zero_of_info info186).1 s ⟨#[32, 40, 41]⟩ w (by decide) (by omega) (by omega) (by decide) (ascii_of_all (by decide))).mono ?_
    rintro E w' ⟨rfl, rfl⟩
    exact ⟨rfl, below_alloc (below_alloc (Below.refl _ _) _) _⟩
def wordN (l : List UInt8) : Nat := if Lib.indexAny l [32, 40, 41] < 0 then l.length else (Lib.indexAny l [32, 40, 41]).toNat
theorem indexAny_lt (l chars : List UInt8) : Lib.indexAny l chars ≤ l.length := by
  induction l with
  | nil => simp [Lib.indexAny]
  | cons a r ih =>
    unfold Lib.indexAny
    split
    · simp; omega
    · split
      · simp; omega
      · simp; omega
theorem wordN_le (l : List UInt8) : wordN l ≤ l.length := by
  unfold wordN
  have := indexAny_lt l [32, 40, 41]
  split <;> omega
structure RT (b : Nat) (l : List UInt8) (m1 m2 : Value) (W : World) : Prop where
  blk : W.heap[b]? = some (.cells #[.string ⟨l.toArray⟩, m1, m2] 92 (0, 0))
theorem RT.keep {b : Nat} {l : List UInt8} {m1 m2 : Value} {W W1 : World} (h : RT b l m1 m2 W) (hb : Below W.heap.size W W1) : RT b l m1 m2 W1 := ⟨blk_below h.blk hb⟩
theorem RT.cells {b : Nat} {l : List UInt8} {m1 m2 : Value} {W : World} (h : RT b l m1 m2 W) : (W.cell? ⟨b, 0, none⟩ = some (.string ⟨l.toArray⟩) ∧ W.frozen? ⟨b, 0, none⟩ = false) ∧ W.cell? ⟨b, 1, none⟩ = some m1 ∧ W.cell? ⟨b, 2, none⟩ = some m2 :=
  ⟨⟨(blk_cell h.blk 0).trans rfl, blk_frozen h.blk 0⟩, (blk_cell h.blk 1).trans rfl, (blk_cell h.blk 2).trans rfl⟩
theorem RT.set {b : Nat} {l : List UInt8} {m1 m2 : Value} {W : World} (h : RT b l m1 m2 W) (s : ByteArray) : RT b s.data.toList m1 m2 (W.setCell ⟨b, 0, none⟩ (.string s)) := by
  refine ⟨(blk_set h.blk 0 (.string s)).trans ?_⟩
  rfl
theorem KR.set {b : Nat} {W W1 : World} (h : KR b W W1) (i : Nat) (u : Value) : KR b W (W1.setCell ⟨b, i, none⟩ u) := ⟨h.lo.setCell (p := ⟨b, i, none⟩) (Nat.le_refl _) _, h.keep.set_ i u⟩
set_option maxHeartbeats 4000000 in
set_option maxRecDepth 100000 in
theorem word_calls (b : Nat) (l : List UInt8) (m1 m2 : Value) (W : World) (h : RT b l m1 m2 W) (hs : l.length ≤ 70000) :
    Calls Tryz.prog 131 #[.pointer (some ⟨b, 0, none⟩)] W fun E w' => E = .returned (.string ⟨(l.take (wordN l)).toArray⟩) ∧ RT b (l.drop (wordN l)) m1 m2 w' ∧ KR b W w' := by
  have hlt := blk_lt h.blk
  have HLT := Aside0.mk (Nat.le_of_lt hlt)
  have HI := Aside0.mk (fun (W1 : World) => ia_calls ⟨l.toArray⟩ W1 (by show l.toArray.size ≤ 70000; rw [List.size_toArray]; exact hs))
  obtain ⟨s, hsx⟩ : ∃ s : ByteArray, s = ⟨l.toArray⟩ := ⟨_, rfl⟩
  have HSD := Aside0.mk (show s.data.toList = l by rw [hsx])
  have HSS := Aside0.mk (show s.size = l.length by rw [Lib.size_eq, hsx])
  have HR := Aside0.mk h
  have hc := h.cells
  rw [← hsx] at HI hc
  have HR0 := Aside0.mk h.blk
  rw [← hsx] at HR0
  have HN := Aside0.mk (wordN_le l)
  have HNI := Aside0.mk (show (wordN l : Int) = (if Lib.indexAny l [32, 40, 41] < 0 then (s.size : Int) else Lib.indexAny l [32, 40, 41]) by
    unfold wordN
    have := indexAny_lt l [32, 40, 41]
    rw [HSS.out]
    split <;> omega)
  obtain ⟨⟨c0, f0⟩, c1, c2⟩ := hc
  rw [HSD.out] at HI
  have HX := Aside0.mk (fun (W1 : World) (hW : Below W.heap.size W W1) => And.intro (pw_cell_below hW c0) ((blk_frozen (blk_below HR0.out hW) 0) : W1.frozen? ⟨b, 0, none⟩ = false))
  clear h hs hsx f0 c1 c2
  go_enter Tryz.func131, Tryz.ntmps131
  go_wp2_with fail
  refine (HI.out _).mono ?_
  rintro E w2 ⟨rfl, hb⟩
  have HB2 := Aside0.mk hb
  have HR2 := Aside0.mk ((HR.out).keep hb)
  have HK2 := Aside0.mk (KR.below HLT.out hb)
  clear c0
  obtain ⟨c0, f0⟩ := HX.out _ hb
  clear hb HI
  generalize Lib.indexAny l [32, 40, 41] = ix at *
  by_cases q : ix < 0
  · have e1 := HNI.out
    rw [if_pos q] at e1
    have e2 : wordN l = s.size := by omega
    have HE := Aside0.mk e2
    clear HX e1 e2
    go_wp2
    go_ret
    have e3 : wordN l = l.length := by rw [HE.out, HSS.out]
    rw [e3, List.take_length, List.drop_length]
    exact ⟨congrArg (fun x => Ending.returned (Value.string x)) (ba_eq HSD.out), (HR2.out).set ByteArray.empty, (HK2.out).set 0 _⟩
  · have e1 := HNI.out
    rw [if_neg q] at e1
    have hnx : wordN l ≤ s.size := by have := HN.out; have := HSS.out; omega
    subst e1
    clear HX
    go_wp2
    go_ret
    have h1 : (s.extract 0 (wordN l)).data.toList = l.take (wordN l) := by rw [Lib.extract_from_zero, HSD.out]
    have h2 : (s.extract (wordN l) s.size).data.toList = l.drop (wordN l) := by rw [Lib.extract_to_end, HSD.out]
    have h3 := (HR2.out).set (s.extract (wordN l) s.size)
    rw [h2] at h3
    exact ⟨congrArg (fun x => Ending.returned (Value.string x)) (ba_eq h1), h3, (HK2.out).set 0 _⟩
end Go.Proofs.YthflpbgloeimfaaGreatDoor.H
namespace Go.Proofs.YthflpbgloeimfaaGreatDoor.H
open Go.RowKit Go.Proofs.YthflpbgloeimfaaGreatDoorW.PrintWords Go.Proofs.YthflpbgloeimfaaGreatDoorW.PrintLast Go.Proofs.YthflpbgloeimfaaGreatDoorW.PrintMore
set_option linter.unusedVariables false
def digs : List UInt8 := [48, 49, 50, 51, 52, 53, 54, 55, 56, 57]
def numBad (l : List UInt8) : Bool := decide (l = []) || decide (10 < l.length) || (decide (l.head? = some 48) && decide (1 < l.length)) || !decide (Lib.trimS l digs = [])
def numV (l : List UInt8) : Int := (Lib.atoi l).getD 0
def numOk (l : List UInt8) : Bool := !numBad l && decide (numV l ≤ 1000000000)
theorem dropWhile_nil {α : Type} {p : α → Bool} {l : List α} (h : l.dropWhile p = []) : ∀ x ∈ l, p x = true := by
  induction l with
  | nil => intro x hx; cases hx
  | cons a r ih =>
    rw [List.dropWhile_cons] at h
    by_cases ha : p a = true
    · rw [if_pos ha] at h
      intro x hx
      rcases List.mem_cons.1 hx with rfl | hx
      · exact ha
      · exact ih h x hx
    · rw [if_neg ha] at h; cases h
theorem mem_tw {α : Type} {p : α → Bool} {l : List α} {x : α} (h : x ∈ l.takeWhile p) : p x = true := by
  induction l with
  | nil => cases h
  | cons a r ih =>
    rw [List.takeWhile_cons] at h
    by_cases ha : p a = true
    · rw [if_pos ha] at h
      rcases List.mem_cons.1 h with rfl | h
      · exact ha
      · exact ih h
    · rw [if_neg ha] at h; cases h
theorem trimS_nil {l cs : List UInt8} (h : Lib.trimS l cs = []) : ∀ x ∈ l, cs.contains x = true := by
  unfold Lib.trimS Lib.trimLeftS Lib.trimRightS at h
  have h1 := dropWhile_nil h
  intro x hx
  have hx2 : x ∈ l.reverse := List.mem_reverse.2 hx
  rw [← List.takeWhile_append_dropWhile (p := (cs.contains ·)) (l := l.reverse)] at hx2
  rcases List.mem_append.1 hx2 with hx3 | hx3
  · exact mem_tw hx3
  · exact h1 x (List.mem_reverse.2 hx3)
theorem digit_val {x : UInt8} (h : digs.contains x = true) : ∃ d, d ≤ 9 ∧ Lib.digitVal x = some d ∧ x ≠ 45 ∧ x ≠ 43 := by
  unfold digs at h
  simp only [List.contains_cons, List.contains_nil, Bool.or_false, Bool.or_eq_true, beq_iff_eq] at h
  rcases h with rfl | rfl | rfl | rfl | rfl | rfl | rfl | rfl | rfl | rfl <;> exact ⟨_, by decide, rfl, by decide, by decide⟩
theorem dec_some {l : List UInt8} (h : ∀ x ∈ l, digs.contains x = true) : ∀ acc, ∃ n, Lib.decFrom acc l = some n := by
  induction l with
  | nil => intro acc; exact ⟨acc, rfl⟩
  | cons a r ih =>
    intro acc
    obtain ⟨d, _, hd, _⟩ := digit_val (h a (List.mem_cons_self ..))
    obtain ⟨n, hn⟩ := ih (fun x hx => h x (List.mem_cons_of_mem _ hx)) (acc * 10 + d)
    exact ⟨n, by rw [Lib.decFrom, hd]; exact hn⟩
theorem atoi_some {l : List UInt8} (h : numBad l = false) : ∃ n : Nat, Lib.atoi l = some (n : Int) := by
  unfold numBad at h
  simp only [Bool.or_eq_false_iff, decide_eq_false_iff_not, Bool.not_eq_false', decide_eq_true_eq] at h
  obtain ⟨⟨⟨h1, _⟩, _⟩, h4⟩ := h
  have hall := trimS_nil h4
  cases l with
  | nil => exact absurd rfl h1
  | cons a r =>
    obtain ⟨d, _, hd, h45, h43⟩ := digit_val (hall a (List.mem_cons_self ..))
    obtain ⟨n, hn⟩ := dec_some hall 0
    refine ⟨n, ?_⟩
    rw [Lib.atoi, if_neg (by simpa using h45), if_neg (by simpa using h43)]
    unfold Lib.decNat
    rw [if_neg (by simp), hn]
    rfl
theorem numV_eq {l : List UInt8} {n : Nat} (h : Lib.atoi l = some (n : Int)) : numV l = n := by unfold numV; rw [h]; rfl
def num0V (l : List UInt8) : Int := if numBad l then 0 else numV l
theorem num_bad {l : List UInt8} (h : numBad l = true) : num0V l = 0 ∧ numOk l = false := by unfold num0V numOk; rw [h]; exact ⟨rfl, rfl⟩
theorem num_good {l : List UInt8} (h : numBad l = false) : num0V l = numV l ∧ numOk l = decide (num0V l ≤ 1000000000) := by unfold num0V numOk; rw [h]; exact ⟨rfl, rfl⟩
theorem head_at {s : ByteArray} (h : 0 < s.size) : s.data.toList.head? = some s[0] := by
  rcases s with ⟨⟨l⟩⟩
  cases l with
  | nil => exact absurd h (by decide)
  | cons a r => rfl
set_option maxHeartbeats 4000000 in
theorem number0_calls (s : ByteArray) (w : World) (hs : s.size ≤ 70000) :
    Calls Tryz.prog 100 #[.string s] w fun E w' => E = .returned (.tuple #[.int .i64 (num0V s.data.toList), .bool (numOk s.data.toList)]) ∧ Below w.heap.size w w' := by
  have HT := Aside0.mk (Tryz.trim_digits s w (by omega))
  have HA := Aside0.mk fun (h : numBad s.data.toList = false) W => by
    obtain ⟨n, hn⟩ := atoi_some h
    have h10 : s.size ≤ 18 := by
      unfold numBad at h
      simp only [Bool.or_eq_false_iff, decide_eq_false_iff_not] at h
      have := h.1.1.2
      have e : s.data.toList.length = s.size := (Lib.size_eq s).symm
      omega
    exact (show Calls Tryz.prog 128 #[.string s] W fun e w' => e = .returned (.tuple #[.int .i64 (numV s.data.toList), .nilIface]) ∧ Below W.heap.size W w' from (Tryz.strconv_Atoi s n h10 hn W).mono fun e w' ⟨he, t, ht⟩ => ⟨by rw [numV_eq hn]; exact he, by rw [ht]; exact Lib.bytesWorld_below _ _ _⟩)
  have HE := Aside0.mk (Lib.toList_data s)
  have HZ := Aside0.mk (Lib.size_eq s)
  go_enter Tryz.func100, Tryz.ntmps100
  cases q1 : s.toList.isEmpty with
  | true =>
    have hb : numBad s.data.toList = true := by
      have : s.data.toList = [] := by rw [← HE.out]; simpa using q1
      unfold numBad; rw [decide_eq_true this]; rfl
    have HV := Aside0.mk (num_bad hb)
    clear hb
    go_wp2
    go_ret2
    exact ⟨by rw [(HV.out).1, (HV.out).2]; rfl, Below.refl _ _⟩
  | false =>
  cases q2 : decide ((s.size : Int) > 10) with
  | true =>
    have hb : numBad s.data.toList = true := by
      have := of_decide_eq_true q2
      unfold numBad; rw [decide_eq_true (show 10 < s.data.toList.length by rw [← HZ.out]; omega)]; simp
    have HV := Aside0.mk (num_bad hb)
    clear hb
    go_wp2
    go_ret2
    exact ⟨by rw [(HV.out).1, (HV.out).2]; rfl, Below.refl _ _⟩
  | false =>
  have h0 : 0 < s.size := by
    rw [HZ.out]
    cases e : s.data.toList with
    | nil => rw [← HE.out] at e; rw [e] at q1; cases q1
    | cons a r => simp
  have HH := Aside0.mk (head_at h0)
  go_wp2_with fail
  · have HN48 := Aside0.mk (show (decide (s.data.toList.head? = some 48) && decide (1 < s.data.toList.length)) = false from by rw [HZ.out] at *; rw [decide_eq_false (show ¬ 1 < s.data.toList.length by omega)]; simp)
    refine (HT.out).mono ?_
    rintro E w2 ⟨rfl, hb⟩
    have HB := Aside0.mk hb
    have HTR := Aside0.mk (show Lib.trimS s.data.toList digs = [] ↔ (⟨(Lib.trimS s.data.toList [48, 49, 50, 51, 52, 53, 54, 55, 56, 57]).toArray⟩ : ByteArray).toList.isEmpty = true by rw [Lib.toList_data]; simp [digs])
    clear hb
    generalize (⟨(Lib.trimS s.data.toList [48, 49, 50, 51, 52, 53, 54, 55, 56, 57]).toArray⟩ : ByteArray) = tr at *
    cases q5 : tr.toList.isEmpty with
    | false =>
      have hb : numBad s.data.toList = true := by
        have h1 : ¬ Lib.trimS s.data.toList digs = [] := fun h => by rw [(HTR.out).1 h] at q5; cases q5
        unfold numBad; rw [decide_eq_false h1]; simp
      have HV := Aside0.mk (num_bad hb)
      clear hb
      go_wp2
      go_ret2
      exact ⟨by rw [(HV.out).1, (HV.out).2]; rfl, HB.out⟩
    | true =>
      have hb : numBad s.data.toList = false := by
        unfold numBad
        rw [decide_eq_true ((HTR.out).2 q5), HN48.out, decide_eq_false (show ¬ s.data.toList = [] from fun h => by rw [← HE.out] at h; rw [h] at q1; cases q1), decide_eq_false (show ¬ 10 < s.data.toList.length from by have := of_decide_eq_false q2; rw [← HZ.out]; omega)]
        rfl
      have HV := Aside0.mk (num_good hb)
      have HA2 := Aside0.mk (HA.out hb)
      clear hb
      go_wp2_with fail
      refine (HA2.out _).mono ?_
      rintro E w3 ⟨rfl, hb⟩
      have HB3 := Aside0.mk (below_then HB.out (HB.out).size hb)
      clear hb
      rw [← (HV.out).1]
      cases q6 : decide (num0V s.data.toList ≤ 1000000000) with
      | false =>
        go_wp2
        go_ret2
        exact ⟨by rw [(HV.out).2, q6]; rfl, HB3.out⟩
      | true =>
        go_wp2
        go_ret2
        exact ⟨by rw [(HV.out).2, q6]; rfl, HB3.out⟩
  · have hb : numBad s.data.toList = true := by
      have h48 : s[0].toNat = 48 := by omega
      have e : s[0] = 48 := UInt8.toNat_inj.1 h48
      unfold numBad; rw [HH.out, e, decide_eq_true (show 1 < s.data.toList.length by rw [← HZ.out]; omega)]; simp
    have HV := Aside0.mk (num_bad hb)
    clear hb
    go_wp2
    go_ret2
    exact ⟨by rw [(HV.out).1, (HV.out).2]; rfl, Below.refl _ _⟩
  · have HN48 := Aside0.mk (show (decide (s.data.toList.head? = some 48) && decide (1 < s.data.toList.length)) = false from by rw [HH.out]; have h1 : ¬ s[0] = 48 := fun e => absurd (show ((s[0].toNat : Nat) : Int) = 48 by rw [e]; rfl) (by assumption); simp [h1])
    refine (HT.out).mono ?_
    rintro E w2 ⟨rfl, hb⟩
    have HB := Aside0.mk hb
    have HTR := Aside0.mk (show Lib.trimS s.data.toList digs = [] ↔ (⟨(Lib.trimS s.data.toList [48, 49, 50, 51, 52, 53, 54, 55, 56, 57]).toArray⟩ : ByteArray).toList.isEmpty = true by rw [Lib.toList_data]; simp [digs])
    clear hb
    generalize (⟨(Lib.trimS s.data.toList [48, 49, 50, 51, 52, 53, 54, 55, 56, 57]).toArray⟩ : ByteArray) = tr at *
    cases q5 : tr.toList.isEmpty with
    | false =>
      have hb : numBad s.data.toList = true := by
        have h1 : ¬ Lib.trimS s.data.toList digs = [] := fun h => by rw [(HTR.out).1 h] at q5; cases q5
        unfold numBad; rw [decide_eq_false h1]; simp
      have HV := Aside0.mk (num_bad hb)
      clear hb
      go_wp2
      go_ret2
      exact ⟨by rw [(HV.out).1, (HV.out).2]; rfl, HB.out⟩
    | true =>
      have hb : numBad s.data.toList = false := by
        unfold numBad
        rw [decide_eq_true ((HTR.out).2 q5), HN48.out, decide_eq_false (show ¬ s.data.toList = [] from fun h => by rw [← HE.out] at h; rw [h] at q1; cases q1), decide_eq_false (show ¬ 10 < s.data.toList.length from by have := of_decide_eq_false q2; rw [← HZ.out]; omega)]
        rfl
      have HV := Aside0.mk (num_good hb)
      have HA2 := Aside0.mk (HA.out hb)
      clear hb
      go_wp2_with fail
      refine (HA2.out _).mono ?_
      rintro E w3 ⟨rfl, hb⟩
      have HB3 := Aside0.mk (below_then HB.out (HB.out).size hb)
      clear hb
      rw [← (HV.out).1]
      cases q6 : decide (num0V s.data.toList ≤ 1000000000) with
      | false =>
        go_wp2
        go_ret2
        exact ⟨by rw [(HV.out).2, q6]; rfl, HB3.out⟩
      | true =>
        go_wp2
        go_ret2
        exact ⟨by rw [(HV.out).2, q6]; rfl, HB3.out⟩
end Go.Proofs.YthflpbgloeimfaaGreatDoor.H
namespace Go.Proofs.YthflpbgloeimfaaGreatDoor.H
open Go.RowKit Go.Proofs.YthflpbgloeimfaaGreatDoorW.PrintWords Go.Proofs.YthflpbgloeimfaaGreatDoorW.PrintLast Go.Proofs.YthflpbgloeimfaaGreatDoorW.PrintMore
open Go.Proofs.YthflpbgloeimfaaGreatDoor.Q (S47 k47 rd_T47 z47 at_T47 S50 k50 rd_T50 z50 at_T50 S52 k52 rd_T52 at_T52 z52 S71 k71 rd_T71 at_T71)
set_option linter.unusedVariables false
set_option linter.unusedSimpArgs false
def ki (n : Int) : Value := .int .i64 n
def pwrong : Ending := .panicked [{ v := .iface 85 (.agg #[]), recovered := false }]
abbrev Ents := List (ByteArray × Int)
structure RM (b : Nat) (l : List UInt8) (B1 B2 : Nat) (e1 e2 : Ents) (W : World) : Prop where
  rt : RT b l (.map (some B1)) (.map (some B2)) W
  i1 : MapIs W B1 Value.string ki sdom e1
  i2 : MapIs W B2 Value.string ki sdom e2
  n1 : B1 ≠ b
  n2 : B2 ≠ b
section
variable {b B1 B2 : Nat} {l l2 : List UInt8} {e1 e2 : Ents} {W W1 : World}
theorem RM.call (h : RM b l B1 B2 e1 e2 W) (hr : RT b l2 (.map (some B1)) (.map (some B2)) W1) (hk : KR b W W1) : RM b l2 B1 B2 e1 e2 W1 :=
  ⟨hr, h.i1.kept (hk.keep.2 B1 h.i1.lt h.n1 (by simp)), h.i2.kept (hk.keep.2 B2 h.i2.lt h.n2 (by simp)), h.n1, h.n2⟩
theorem RM.keep (h : RM b l B1 B2 e1 e2 W) (hb : Below W.heap.size W W1) : RM b l B1 B2 e1 e2 W1 := ⟨h.rt.keep hb, h.i1.below hb, h.i2.below hb, h.n1, h.n2⟩
theorem RM.lt (h : RM b l B1 B2 e1 e2 W) : b < W.heap.size := blk_lt h.rt.blk
end
def hdW (e1 e2 : Ents) (w rest : List UInt8) : Option ((Int × Int) × List UInt8) :=
  if Lib.hasPrefix w [36] = true then (if numOk (Lib.trimPrefix w [36]) = true then some ((0, num0V (Lib.trimPrefix w [36])), rest) else none)
  else match mget (⟨(Lib.trimPrefix w [35]).toArray⟩ : ByteArray) (if Lib.hasPrefix w [35] = true then e1 else e2) with
    | none => none
    | some v => if nameB ⟨(Lib.trimPrefix w [35]).toArray⟩ = true then some ((if Lib.hasPrefix w [35] = true then 2 else 1, v), rest) else none
def hdR (e1 e2 : Ents) (l : List UInt8) : Option ((Int × Int) × List UInt8) := hdW e1 e2 (l.take (wordN l)) (l.drop (wordN l))
def HdQ (b : Nat) (l : List UInt8) (B1 B2 : Nat) (e1 e2 : Ents) (W : World) (E : Ending) (w' : World) : Prop :=
  KR b W w' ∧ (hdR e1 e2 l = none ∧ E = pwrong ∨ ∃ k n r, hdR e1 e2 l = some ((k, n), r) ∧ E = .returned (.agg #[.int .i64 k, .int .i64 n, .slice none 0 0]) ∧ RT b r (.map (some B1)) (.map (some B2)) w')
theorem trim_len (l p : List UInt8) : (Lib.trimPrefix l p).length ≤ l.length := by unfold Lib.trimPrefix; split <;> simp
structure FH (b : Nat) (l : List UInt8) (B1 B2 : Nat) (e1 e2 : Ents) (W W1 : World) : Prop where
  rm : RM b l B1 B2 e1 e2 W1
  h2 : W1.heap[W.heap.size]? = some (.cells #[.int .i64 0, .int .i64 0, .slice none 0 0] 50 (0, 0))
  kr : KR b W W1
  lt : b < W.heap.size
section
variable {b B1 B2 : Nat} {l l2 : List UInt8} {e1 e2 : Ents} {W W1 W2 : World}
theorem FH.call (h : FH b l B1 B2 e1 e2 W W1) (hr : RT b l2 (.map (some B1)) (.map (some B2)) W2) (hk : KR b W1 W2) : FH b l2 B1 B2 e1 e2 W W2 :=
  ⟨h.rm.call hr hk, hk.blk (by have := h.lt; omega) h.h2, h.kr.trans hk, h.lt⟩
theorem FH.below (h : FH b l B1 B2 e1 e2 W W1) (hb : Below W1.heap.size W1 W2) : FH b l B1 B2 e1 e2 W W2 :=
  h.call (h.rm.rt.keep hb) (KR.below (Nat.le_of_lt h.rm.lt) hb)
theorem FH.cells (h : FH b l B1 B2 e1 e2 W W1) : (W1.cell? ⟨W.heap.size, 0, none⟩ = some (.int .i64 0) ∧ W1.cell? ⟨W.heap.size, 1, none⟩ = some (.int .i64 0) ∧ W1.cell? ⟨W.heap.size, 2, none⟩ = some (.slice none 0 0)) ∧ W1.frozen? ⟨W.heap.size, 0, none⟩ = false ∧ W1.frozen? ⟨W.heap.size, 1, none⟩ = false ∧ W1.frozen? ⟨W.heap.size, 2, none⟩ = false :=
  ⟨⟨(blk_cell h.h2 0).trans rfl, (blk_cell h.h2 1).trans rfl, (blk_cell h.h2 2).trans rfl⟩, blk_frozen h.h2 0, blk_frozen h.h2 1, blk_frozen h.h2 2⟩
end
theorem KR.far {b g : Nat} {W W1 : World} (h : KR b W W1) (hlt : b < W.heap.size) (hg : W.heap.size ≤ g) (i : Nat) (u : Value) : KR b W (W1.setCell ⟨g, i, none⟩ u) := by
  refine ⟨h.lo.setCell (p := ⟨g, i, none⟩) (by show b ≤ g; omega) _, ?_, ?_⟩
  · have := h.keep.1
    simpa [World.setCell] using this
  · intro j hj hne hr
    rw [Below.heap_setCell W1 ⟨g, i, none⟩ _ j (by show j ≠ g; omega)]
    exact h.keep.2 j hj hne hr
theorem RT.far {b g : Nat} {l : List UInt8} {m1 m2 : Value} {W : World} (h : RT b l m1 m2 W) (hg : b ≠ g) (i : Nat) (u : Value) : RT b l m1 m2 (W.setCell ⟨g, i, none⟩ u) := ⟨blk_far h.blk hg _⟩
set_option maxHeartbeats 8000000 in
set_option maxRecDepth 100000 in
theorem rhd_calls (b : Nat) (l : List UInt8) (B1 B2 : Nat) (e1 e2 : Ents) (W : World) (h : RM b l B1 B2 e1 e2 W) (hs : l.length ≤ 70000) :
    Calls Tryz.prog 104 #[.pointer (some ⟨b, 0, none⟩)] W (HdQ b l B1 B2 e1 e2 W) := by
  have hlt := h.lt
  have HLT := Aside0.mk hlt
  have HF := Aside0.mk (FH.mk (h.keep (below_alloc (Below.refl W.heap.size W) (.cells #[.int .i64 0, .int .i64 0, .slice none 0 0] 50))) (blk_new W _) (KR.below (Nat.le_of_lt hlt) (below_alloc (Below.refl W.heap.size W) (.cells #[.int .i64 0, .int .i64 0, .slice none 0 0] 50))) hlt)
  have HL := Aside0.mk hs
  clear h hs hlt
  go_enter Tryz.func104, Tryz.ntmps104
  go_upto_region 1 with (fail)
  generalize (W.alloc (.cells #[.int .i64 0, .int .i64 0, .slice none 0 0] 50)) = W1 at *
  have HW := Aside0.mk (word_calls b l _ _ W1 (HF.out).rm.rt HL.out)
  go_wp2_with fail
  refine (HW.out).mono ?_
  rintro E w2 ⟨rfl, hr, hk⟩
  have HF2 := Aside0.mk ((HF.out).call hr hk)
  clear hr hk HF HW
  have HDR := Aside0.mk (show hdR e1 e2 l = hdW e1 e2 (l.take (wordN l)) (l.drop (wordN l)) from rfl)
  have HTL := Aside0.mk (show (l.take (wordN l)).length ≤ 70000 by have := HL.out; rw [List.length_take]; omega)
  generalize l.drop (wordN l) = rest at *
  generalize l.take (wordN l) = wd at *
  have HP1 := Aside0.mk (fun (W1 : World) => Tryz.strings_CutPrefix ⟨wd.toArray⟩ ⟨#[36]⟩ W1)
  have HP2 := Aside0.mk (fun (W1 : World) => Tryz.strings_CutPrefix ⟨wd.toArray⟩ ⟨#[35]⟩ W1)
  rw [show (ByteArray.mk wd.toArray).data.toList = wd from rfl, show (ByteArray.mk #[36]).data.toList = [36] from rfl] at HP1
  rw [show (ByteArray.mk wd.toArray).data.toList = wd from rfl, show (ByteArray.mk #[35]).data.toList = [35] from rfl] at HP2
  have HTZ := Aside0.mk (show (ByteArray.mk (Lib.trimPrefix wd [36]).toArray).size ≤ 70000 by
    show (Lib.trimPrefix wd [36]).toArray.size ≤ 70000
    rw [List.size_toArray]; have := trim_len wd [36]; have := HTL.out; omega)
  have HN := Aside0.mk (fun (W1 : World) => number0_calls ⟨(Lib.trimPrefix wd [36]).toArray⟩ W1 HTZ.out)
  rw [show (ByteArray.mk (Lib.trimPrefix wd [36]).toArray).data.toList = Lib.trimPrefix wd [36] from rfl] at HN
  go_wp2_with fail
  refine (HP1.out _).mono ?_
  rintro E w3 ⟨rfl, hw⟩
  subst hw
  cases q1 : Lib.hasPrefix wd [36] with
  | true =>
    have HQ1 := Aside0.mk q1
    clear q1 HP1 HP2
    go_wp2_with fail
    refine (HN.out _).mono ?_
    rintro E w4 ⟨rfl, hb⟩
    have HF4 := Aside0.mk ((HF2.out).below hb)
    clear hb HF2 HN
    cases q2 : numOk (Lib.trimPrefix wd [36]) with
    | true =>
      have HV := Aside0.mk (show hdW e1 e2 wd rest = some ((0, num0V (Lib.trimPrefix wd [36])), rest) by unfold hdW; rw [if_pos HQ1.out, if_pos q2])
      clear q2
      generalize num0V (Lib.trimPrefix wd [36]) = nv at *
      obtain ⟨⟨c0, c1, c2⟩, f0, f1, f2⟩ := (HF4.out).cells
      have HB0 := Aside0.mk (blk_set (blk_set (blk_set (HF4.out).h2 0 (.int .i64 0)) 1 (.int .i64 nv)) 2 (.slice none 0 0))
      have HK0 := Aside0.mk ((((HF4.out).kr.far HLT.out (Nat.le_refl _) 0 (.int .i64 0)).far HLT.out (Nat.le_refl _) 1 (.int .i64 nv)).far HLT.out (Nat.le_refl _) 2 (.slice none 0 0))
      have HR0 := Aside0.mk ((((HF4.out).rm.rt.far (g := W.heap.size) (by have := HLT.out; omega) 0 (.int .i64 0)).far (g := W.heap.size) (by have := HLT.out; omega) 1 (.int .i64 nv)).far (g := W.heap.size) (by have := HLT.out; omega) 2 (.slice none 0 0))
      go_wp2
      refine bodyPost_ret (results_single rfl (.cell W.heap.size 50 #[.int .i64 0, .int .i64 nv, .slice none 0 0] (0, 0) _ rfl HB0.out Tryz.underlying50 rfl (by kernel_rfl) .nil)) rfl ?_
      exact ⟨HK0.out, .inr ⟨0, nv, rest, HDR.out.trans HV.out, rfl, HR0.out⟩⟩
    | false =>
      have HV := Aside0.mk (show hdW e1 e2 wd rest = none by unfold hdW; rw [if_pos HQ1.out, if_neg (by rw [q2]; exact Bool.false_ne_true)])
      have HK := Aside0.mk (HF4.out).kr
      clear q2
      go_wp2
      exact ⟨rfl, HK.out, .inl ⟨HDR.out.trans HV.out, rfl⟩⟩
  | false =>
    have HQ1 := Aside0.mk q1
    clear q1 HP1 HN HTZ
    have HTZ := Aside0.mk (show (ByteArray.mk (Lib.trimPrefix wd [35]).toArray).size ≤ 70000 by
      show (Lib.trimPrefix wd [35]).toArray.size ≤ 70000
      rw [List.size_toArray]; have := trim_len wd [35]; have := HTL.out; omega)
    have HK := Aside0.mk (fun (W : World) (hW : Below w3.heap.size w3 W) => And.intro (pw_cell_below hW (HF2.out).rm.rt.cells.2.1) (pw_cell_below hW (HF2.out).rm.rt.cells.2.2))
    have hd := below_drew (Below.refl w3.heap.size w3)
    go_upto_region 8 with (fail)
    go_region_held3 (fun w' => w'.cell? ⟨b, 1, none⟩ = some (.map (some B1)) ∧ w'.cell? ⟨b, 2, none⟩ = some (.map (some B2))) (first | exact HK.out _ hd | fail) (first | fail)
    have HF3 := Aside0.mk ((HF2.out).below hd)
    clear hd HK HF2
    generalize w3.drew = w4 at *
    go_wp2_with fail
    refine (HP2.out _).mono ?_
    rintro E w5 ⟨rfl, hw⟩
    subst hw
    generalize hx : (ByteArray.mk (Lib.trimPrefix wd [35]).toArray) = x at *
    have HX := Aside0.mk hx
    have HDOM := Aside0.mk (show sdom x from by unfold sdom maxLen; have := HTZ.out; omega)
    have HNM := Aside0.mk (fun (W1 : World) => name_calls x W1)
    clear hx HP2
    cases q3 : Lib.hasPrefix wd [35] with
    | false =>
      have HQ3 := Aside0.mk q3
      clear q3
      have hl := MapIs.look (HF3.out).rm.i2 keyStr Tryz.underlying90 (zero3 w5) HDOM.out true
      cases qm : mget x e2 with
      | none =>
        rw [qm] at hl
        simp only [if_true] at hl
        have HV := Aside0.mk (show hdW e1 e2 wd rest = none by unfold hdW; rw [if_neg (by rw [HQ1.out]; exact Bool.false_ne_true), HX.out, if_neg (by rw [HQ3.out]; exact Bool.false_ne_true), if_neg (by rw [HQ3.out]; exact Bool.false_ne_true), qm])
        have HK := Aside0.mk (HF3.out).kr
        clear qm
        go_wp2
        exact ⟨rfl, HK.out, .inl ⟨HDR.out.trans HV.out, rfl⟩⟩
      | some nv =>
        rw [qm] at hl
        simp only [if_true] at hl
        unfold ki at hl
        have HQM := Aside0.mk qm
        clear qm
        go_wp2_with fail
        refine (HNM.out _).mono ?_
        rintro E w6 ⟨rfl, hb⟩
        have HF6 := Aside0.mk ((HF3.out).below hb)
        clear hb HF3 HNM hl
        cases qn : nameB x with
        | false =>
          have HV := Aside0.mk (show hdW e1 e2 wd rest = none by unfold hdW; rw [if_neg (by rw [HQ1.out]; exact Bool.false_ne_true), HX.out, if_neg (by rw [HQ3.out]; exact Bool.false_ne_true), if_neg (by rw [HQ3.out]; exact Bool.false_ne_true), HQM.out]; simp only; rw [if_neg (by rw [qn]; exact Bool.false_ne_true)])
          have HK := Aside0.mk (HF6.out).kr
          clear qn
          go_wp2
          exact ⟨rfl, HK.out, .inl ⟨HDR.out.trans HV.out, rfl⟩⟩
        | true =>
          have HV := Aside0.mk (show hdW e1 e2 wd rest = some ((1, nv), rest) by unfold hdW; rw [if_neg (by rw [HQ1.out]; exact Bool.false_ne_true), HX.out, if_neg (by rw [HQ3.out]; exact Bool.false_ne_true), if_neg (by rw [HQ3.out]; exact Bool.false_ne_true), HQM.out]; simp only; rw [if_pos qn])
          clear qn
          obtain ⟨⟨c0, c1, c2⟩, f0, f1, f2⟩ := (HF6.out).cells
          have HB0 := Aside0.mk (blk_set (blk_set (blk_set (HF6.out).h2 0 (.int .i64 1)) 1 (.int .i64 nv)) 2 (.slice none 0 0))
          have HK0 := Aside0.mk ((((HF6.out).kr.far HLT.out (Nat.le_refl _) 0 (.int .i64 1)).far HLT.out (Nat.le_refl _) 1 (.int .i64 nv)).far HLT.out (Nat.le_refl _) 2 (.slice none 0 0))
          have HR0 := Aside0.mk ((((HF6.out).rm.rt.far (g := W.heap.size) (by have := HLT.out; omega) 0 (.int .i64 1)).far (g := W.heap.size) (by have := HLT.out; omega) 1 (.int .i64 nv)).far (g := W.heap.size) (by have := HLT.out; omega) 2 (.slice none 0 0))
          go_wp2
          refine bodyPost_ret (results_single rfl (.cell W.heap.size 50 #[.int .i64 1, .int .i64 nv, .slice none 0 0] (0, 0) _ rfl HB0.out Tryz.underlying50 rfl (by kernel_rfl) .nil)) rfl ?_
          exact ⟨HK0.out, .inr ⟨1, nv, rest, HDR.out.trans HV.out, rfl, HR0.out⟩⟩
    | true =>
      have HQ3 := Aside0.mk q3
      clear q3
      have HK := Aside0.mk (fun (W : World) (hW : Below w5.heap.size w5 W) => And.intro (pw_cell_below hW (HF3.out).rm.rt.cells.2.1) (pw_cell_below hW (HF3.out).rm.rt.cells.2.2))
      have hd := below_drew (Below.refl w5.heap.size w5)
      go_upto_region 11 with (fail)
      go_region_held3 (fun w' => w'.cell? ⟨b, 1, none⟩ = some (.map (some B1)) ∧ w'.cell? ⟨b, 2, none⟩ = some (.map (some B2))) (first | exact HK.out _ hd | fail) (first | fail)
      have HF4 := Aside0.mk ((HF3.out).below hd)
      clear hd HK HF3
      generalize w5.drew = w7 at *
      have hl := MapIs.look (HF4.out).rm.i1 keyStr Tryz.underlying90 (zero3 w7) HDOM.out true
      cases qm : mget x e1 with
      | none =>
        rw [qm] at hl
        simp only [if_true] at hl
        have HV := Aside0.mk (show hdW e1 e2 wd rest = none by unfold hdW; rw [if_neg (by rw [HQ1.out]; exact Bool.false_ne_true), HX.out, if_pos HQ3.out, if_pos HQ3.out, qm])
        have HK := Aside0.mk (HF4.out).kr
        clear qm
        go_wp2
        exact ⟨rfl, HK.out, .inl ⟨HDR.out.trans HV.out, rfl⟩⟩
      | some nv =>
        rw [qm] at hl
        simp only [if_true] at hl
        unfold ki at hl
        have HQM := Aside0.mk qm
        clear qm
        go_wp2_with fail
        refine (HNM.out _).mono ?_
        rintro E w6 ⟨rfl, hb⟩
        have HF6 := Aside0.mk ((HF4.out).below hb)
        clear hb HF4 HNM hl
        cases qn : nameB x with
        | false =>
          have HV := Aside0.mk (show hdW e1 e2 wd rest = none by unfold hdW; rw [if_neg (by rw [HQ1.out]; exact Bool.false_ne_true), HX.out, if_pos HQ3.out, if_pos HQ3.out, HQM.out]; simp only; rw [if_neg (by rw [qn]; exact Bool.false_ne_true)])
          have HK := Aside0.mk (HF6.out).kr
          clear qn
          go_wp2
          exact ⟨rfl, HK.out, .inl ⟨HDR.out.trans HV.out, rfl⟩⟩
        | true =>
          have HV := Aside0.mk (show hdW e1 e2 wd rest = some ((2, nv), rest) by unfold hdW; rw [if_neg (by rw [HQ1.out]; exact Bool.false_ne_true), HX.out, if_pos HQ3.out, if_pos HQ3.out, HQM.out]; simp only; rw [if_pos qn])
          clear qn
          obtain ⟨⟨c0, c1, c2⟩, f0, f1, f2⟩ := (HF6.out).cells
          have HB0 := Aside0.mk (blk_set (blk_set (blk_set (HF6.out).h2 0 (.int .i64 2)) 1 (.int .i64 nv)) 2 (.slice none 0 0))
          have HK0 := Aside0.mk ((((HF6.out).kr.far HLT.out (Nat.le_refl _) 0 (.int .i64 2)).far HLT.out (Nat.le_refl _) 1 (.int .i64 nv)).far HLT.out (Nat.le_refl _) 2 (.slice none 0 0))
          have HR0 := Aside0.mk ((((HF6.out).rm.rt.far (g := W.heap.size) (by have := HLT.out; omega) 0 (.int .i64 2)).far (g := W.heap.size) (by have := HLT.out; omega) 1 (.int .i64 nv)).far (g := W.heap.size) (by have := HLT.out; omega) 2 (.slice none 0 0))
          go_wp2
          refine bodyPost_ret (results_single rfl (.cell W.heap.size 50 #[.int .i64 2, .int .i64 nv, .slice none 0 0] (0, 0) _ rfl HB0.out Tryz.underlying50 rfl (by kernel_rfl) .nil)) rfl ?_
          exact ⟨HK0.out, .inr ⟨2, nv, rest, HDR.out.trans HV.out, rfl, HR0.out⟩⟩
end Go.Proofs.YthflpbgloeimfaaGreatDoor.H
namespace Go.Proofs.YthflpbgloeimfaaGreatDoor.H
open Go.RowKit Go.Proofs.YthflpbgloeimfaaGreatDoorW.PrintWords Go.Proofs.YthflpbgloeimfaaGreatDoorW.PrintLast Go.Proofs.YthflpbgloeimfaaGreatDoorW.PrintMore
open Go.Proofs.YthflpbgloeimfaaGreatDoor.Q (S47 k47 rd_T47 z47 at_T47 S50 k50 rd_T50 z50 at_T50 S52 k52 rd_T52 at_T52 z52 S71 k71 rd_T71 at_T71)
set_option linter.unusedVariables false
set_option linter.unusedSimpArgs false
theorem hdR_le {e1 e2 : Ents} {l r : List UInt8} {p : Int × Int} (h : hdR e1 e2 l = some (p, r)) : r.length ≤ l.length := by
  unfold hdR hdW at h
  have hd : (l.drop (wordN l)).length ≤ l.length := by rw [List.length_drop]; omega
  split at h
  · split at h
    · cases h; exact hd
    · cases h
  · split at h
    · cases h
    · split at h
      · cases h; exact hd
      · cases h
def tmP (e1 e2 : Ents) : Nat → Int × Int → List S50 → List UInt8 → Option (S50 × List UInt8)
  | 0, _, _, _ => none
  | n + 1, kn, acc, l =>
    if Lib.hasPrefix l [32] = true then
      (if Lib.hasPrefix (l.drop 1) [40] = true then
        (hdR e1 e2 ((l.drop 1).drop 1)).bind fun p => (tmP e1 e2 n p.1 [] p.2).bind fun q =>
          if q.1.f2.length = 0 then none else if Lib.hasPrefix q.2 [41] = true then tmP e1 e2 n kn (acc ++ [q.1]) (q.2.drop 1) else none
      else (hdR e1 e2 (l.drop 1)).bind fun p => tmP e1 e2 n kn (acc ++ [⟨p.1.1, p.1.2, []⟩]) p.2)
    else some (⟨kn.1, kn.2, acc⟩, l)
theorem tmP_le (e1 e2 : Ents) (n : Nat) : ∀ (kn : Int × Int) (acc : List S50) (l : List UInt8) (p : S50 × List UInt8), tmP e1 e2 n kn acc l = some p → p.2.length ≤ l.length := by
  induction n with
  | zero => intro kn acc l p h; simp [tmP] at h
  | succ n ih =>
    intro kn acc l p h
    rw [tmP] at h
    split at h
    · split at h
      · obtain ⟨a, ha, h⟩ := Option.bind_eq_some_iff.1 h
        obtain ⟨q, hq, h⟩ := Option.bind_eq_some_iff.1 h
        have h1 := hdR_le ha
        have h2 := ih _ _ _ _ hq
        rw [List.length_drop, List.length_drop] at h1
        split at h
        · cases h
        · split at h
          · have h3 := ih _ _ _ _ h
            rw [List.length_drop] at h3
            omega
          · cases h
      · obtain ⟨a, ha, h⟩ := Option.bind_eq_some_iff.1 h
        have h1 := hdR_le ha
        have h2 := ih _ _ _ _ h
        rw [List.length_drop] at h1
        omega
    · cases h
      exact Nat.le_refl _
theorem tmP_fuel (e1 e2 : Ents) (n : Nat) : ∀ (m : Nat) (kn : Int × Int) (acc : List S50) (l : List UInt8), l.length < n → l.length < m → tmP e1 e2 n kn acc l = tmP e1 e2 m kn acc l := by
  induction n with
  | zero => intro m kn acc l h; omega
  | succ n ih =>
    intro m kn acc l h1 h2
    cases m with
    | zero => omega
    | succ m =>
      rw [tmP, tmP]
      by_cases q : Lib.hasPrefix l [32] = true
      · have hl := hp_len q
        simp only [List.length_cons, List.length_nil] at hl
        rw [if_pos q, if_pos q]
        by_cases q2 : Lib.hasPrefix (l.drop 1) [40] = true
        · rw [if_pos q2, if_pos q2]
          cases e : hdR e1 e2 ((l.drop 1).drop 1) with
          | none => rfl
          | some p =>
            have h3 := hdR_le e
            rw [List.length_drop, List.length_drop] at h3
            simp only [Option.bind_some]
            rw [ih m p.1 [] p.2 (by omega) (by omega)]
            cases e2 : tmP e1 _ m p.1 [] p.2 with
            | none => rfl
            | some q =>
              have h4 := tmP_le _ _ _ _ _ _ _ e2
              simp only [Option.bind_some]
              rw [ih m _ _ (q.2.drop 1) (by rw [List.length_drop]; omega) (by rw [List.length_drop]; omega)]
        · rw [if_neg q2, if_neg q2]
          cases e : hdR e1 e2 (l.drop 1) with
          | none => rfl
          | some p =>
            have h3 := hdR_le e
            rw [List.length_drop] at h3
            simp only [Option.bind_some]
            rw [ih m _ _ p.2 (by omega) (by omega)]
      · rw [if_neg q, if_neg q]
def tmA (e1 e2 : Ents) (kn : Int × Int) (acc : List S50) (l : List UInt8) : Option (S50 × List UInt8) := tmP e1 e2 (l.length + 1) kn acc l
def tmR (e1 e2 : Ents) (l : List UInt8) : Option (S50 × List UInt8) := (hdR e1 e2 l).bind fun p => tmA e1 e2 p.1 [] p.2
theorem tmR_le {e1 e2 : Ents} {l : List UInt8} {p : S50 × List UInt8} (h : tmR e1 e2 l = some p) : p.2.length ≤ l.length := by
  obtain ⟨a, ha, h⟩ := Option.bind_eq_some_iff.1 h
  exact Nat.le_trans (tmP_le _ _ _ _ _ _ _ h) (hdR_le ha)
theorem tmA_end {e1 e2 : Ents} {kn : Int × Int} {acc : List S50} {l : List UInt8} (h : Lib.hasPrefix l [32] = false) : tmA e1 e2 kn acc l = some (⟨kn.1, kn.2, acc⟩, l) := by
  unfold tmA; rw [tmP, if_neg (by rw [h]; exact Bool.false_ne_true)]
theorem tmA_head {e1 e2 : Ents} {kn : Int × Int} {acc : List S50} {l : List UInt8} (h : Lib.hasPrefix l [32] = true) (h2 : Lib.hasPrefix (l.drop 1) [40] = false) :
    tmA e1 e2 kn acc l = (hdR e1 e2 (l.drop 1)).bind fun p => tmA e1 e2 kn (acc ++ [⟨p.1.1, p.1.2, []⟩]) p.2 := by
  have hl := hp_len h
  simp only [List.length_cons, List.length_nil] at hl
  unfold tmA
  rw [tmP, if_pos h, if_neg (by rw [h2]; exact Bool.false_ne_true)]
  cases e : hdR e1 e2 (l.drop 1) with
  | none => rfl
  | some p =>
    have h3 := hdR_le e
    rw [List.length_drop] at h3
    simp only [Option.bind_some]
    exact tmP_fuel _ _ _ _ _ _ _ (by omega) (by omega)
theorem tmA_sub {e1 e2 : Ents} {kn : Int × Int} {acc : List S50} {l : List UInt8} (h : Lib.hasPrefix l [32] = true) (h2 : Lib.hasPrefix (l.drop 1) [40] = true) :
    tmA e1 e2 kn acc l = (tmR e1 e2 ((l.drop 1).drop 1)).bind fun q => if q.1.f2.length = 0 then none else if Lib.hasPrefix q.2 [41] = true then tmA e1 e2 kn (acc ++ [q.1]) (q.2.drop 1) else none := by
  have hl := hp_len h
  have hl2 := hp_len h2
  rw [List.length_drop] at hl2
  simp only [List.length_cons, List.length_nil] at hl hl2
  unfold tmR tmA
  rw [tmP, if_pos h, if_pos h2]
  cases e : hdR e1 e2 ((l.drop 1).drop 1) with
  | none => rfl
  | some p =>
    have h3 := hdR_le e
    rw [List.length_drop, List.length_drop] at h3
    simp only [Option.bind_some]
    rw [tmP_fuel _ _ l.length (p.2.length + 1) p.1 [] p.2 (by omega) (by omega)]
    cases e2 : tmP e1 _ (p.2.length + 1) p.1 [] p.2 with
    | none => rfl
    | some q =>
      have h4 := tmP_le _ _ _ _ _ _ _ e2
      simp only [Option.bind_some]
      rw [tmP_fuel _ _ l.length ((q.2.drop 1).length + 1) _ _ (q.2.drop 1) (by rw [List.length_drop]; omega) (by omega)]
end Go.Proofs.YthflpbgloeimfaaGreatDoor.H
namespace Go.Proofs.YthflpbgloeimfaaGreatDoor.H
open Go.RowKit Go.Proofs.YthflpbgloeimfaaGreatDoorW.PrintWords Go.Proofs.YthflpbgloeimfaaGreatDoorW.PrintLast Go.Proofs.YthflpbgloeimfaaGreatDoorW.PrintMore
open Go.Proofs.YthflpbgloeimfaaGreatDoor.Q (S47 k47 rd_T47 z47 at_T47 S50 k50 rd_T50 z50 at_T50 S52 k52 rd_T52 at_T52 z52 S71 k71 rd_T71 at_T71)
set_option linter.unusedVariables false
set_option linter.unusedSimpArgs false
def TmQ (b : Nat) (l : List UInt8) (B1 B2 : Nat) (e1 e2 : Ents) (W : World) (E : Ending) (w' : World) : Prop :=
  KR b W w' ∧ (tmR e1 e2 l = none ∧ E = pwrong ∨ ∃ t r v, tmR e1 e2 l = some (t, r) ∧ E = .returned (.agg #[.int .i64 t.f0, .int .i64 t.f1, v]) ∧ Kd.R k50 50 w' W.heap.size (fun k => W.heap.size ≤ k) v t.f2 ∧ RT b r (.map (some B1)) (.map (some B2)) w')
structure FT (b : Nat) (l : List UInt8) (B1 B2 : Nat) (e1 e2 : Ents) (W W1 : World) (g : Nat) (kn : Int × Int) (acc : List S50) (A : Option Addr) (c : Nat) : Prop where
  rm : RM b l B1 B2 e1 e2 W1
  h2 : W1.heap[W.heap.size]? = some (.cells #[.int .i64 0, .int .i64 0, .slice none 0 0] 50 (0, 0))
  h3 : W1.heap[g]? = some (.cells #[.int .i64 kn.1, .int .i64 kn.2, .slice A acc.length c] 50 (0, 0))
  row : Kd.R k50 50 W1 W.heap.size (fun k => g < k) (.slice A acc.length c) acc
  kr : KR b W W1
  lt : b < W.heap.size
  lt3 : W.heap.size < g
section
variable {b B1 B2 g : Nat} {l l2 : List UInt8} {e1 e2 : Ents} {W W1 W2 : World} {kn : Int × Int} {acc : List S50} {A : Option Addr} {c : Nat}
theorem FT.call (h : FT b l B1 B2 e1 e2 W W1 g kn acc A c) (hr : RT b l2 (.map (some B1)) (.map (some B2)) W2) (hk : KR b W1 W2) : FT b l2 B1 B2 e1 e2 W W2 g kn acc A c :=
  ⟨h.rm.call hr hk, hk.blk (by have := h.lt; omega) h.h2, hk.blk (by have := h.lt; have := h.lt3; omega) h.h3, hk.rr h.row (fun k hk => by have := h.lt; have := h.lt3; omega), h.kr.trans hk, h.lt, h.lt3⟩
theorem FT.below (h : FT b l B1 B2 e1 e2 W W1 g kn acc A c) (hb : Below W1.heap.size W1 W2) : FT b l B1 B2 e1 e2 W W2 g kn acc A c :=
  h.call (h.rm.rt.keep hb) (KR.below (Nat.le_of_lt h.rm.lt) hb)
theorem FT.set (h : FT b l B1 B2 e1 e2 W W1 g kn acc A c) (s : ByteArray) : FT b s.data.toList B1 B2 e1 e2 W (W1.setCell ⟨b, 0, none⟩ (.string s)) g kn acc A c :=
  h.call (h.rm.rt.set s) ((KR.refl b W1).set 0 _)
theorem FT.push {a : S50} {A2 : Option Addr} {c2 : Nat} (h : FT b l B1 B2 e1 e2 W W1 g kn acc A c) (ho : Kd.R k50 50 W2 W.heap.size (fun k => g < k) (.slice A2 (acc ++ [a]).length c2) (acc ++ [a])) (hb : Below W.heap.size W1 W2) (hg : W1.grownBy W2 (Value.slice A acc.length c).ownBlock) :
    FT b l B1 B2 e1 e2 W (W2.setCell ⟨g, 2, none⟩ (.slice A2 (acc.length + 1) c2)) g kn (acc ++ [a]) A2 c2 := by
  rw [show acc.length + 1 = (acc ++ [a]).length from by simp]
  have hrow : ∀ k, (Value.slice A acc.length c).ownBlock = some k → g < k := h.row.1
  have hlt := h.lt
  have hlt3 := h.lt3
  have h2 := blk_grown h.h2 hg (fun e => by have := hrow _ e.symm; omega)
  have h3 := blk_grown h.h3 hg (fun e => by have := hrow _ e.symm; omega)
  have h4 := blk_grown h.rm.rt.blk hg (fun e => by have := hrow _ e.symm; omega)
  have hm : ∀ B es, B ≠ g → MapIs W1 B Value.string ki sdom es → MapIs (W2.setCell ⟨g, 2, none⟩ (.slice A2 (acc ++ [a]).length c2)) B Value.string ki sdom es := by
    intro B es hB hM
    refine (hM.grown hg (fun e => ?_)).far hB _
    obtain ⟨cc, hcc⟩ := Kd.R_typed h.row _ e.symm
    exact hM.ne_row hcc rfl
  have n1 : B1 ≠ g := fun e => h.rm.i1.ne_row h.h3 e.symm
  have n2 : B2 ≠ g := fun e => h.rm.i2.ne_row h.h3 e.symm
  refine ⟨⟨⟨blk_far h4 (by show b ≠ g; omega) _⟩, hm B1 e1 n1 h.rm.i1, hm B2 e2 n2 h.rm.i2, h.rm.n1, h.rm.n2⟩, blk_far h2 (by show W.heap.size ≠ g; omega) _, blk_set h3 2 _, Kd.R_far ho (fun k hk => by show k ≠ g; omega) _, ⟨?_, ?_, ?_⟩, hlt, hlt3⟩
  · exact (Below.trans h.kr.lo (Below.mono hb (Nat.le_of_lt hlt))).setCell (p := ⟨g, 2, none⟩) (by show b ≤ g; omega) _
  · have := Nat.le_trans h.kr.keep.1 hb.size
    simpa [World.setCell] using this
  · intro i hi hne _
    rw [Below.heap_setCell W2 ⟨g, 2, none⟩ _ i (by show i ≠ g; omega)]
    exact (hb.block i hi).trans (h.kr.keep.2 i hi hne (by simp))
theorem FT.cells (h : FT b l B1 B2 e1 e2 W W1 g kn acc A c) : (W1.cell? ⟨W.heap.size, 0, none⟩ = some (.int .i64 0) ∧ W1.cell? ⟨W.heap.size, 1, none⟩ = some (.int .i64 0) ∧ W1.cell? ⟨W.heap.size, 2, none⟩ = some (.slice none 0 0)) ∧ (W1.cell? ⟨g, 0, none⟩ = some (.int .i64 kn.1) ∧ W1.cell? ⟨g, 1, none⟩ = some (.int .i64 kn.2) ∧ W1.cell? ⟨g, 2, none⟩ = some (.slice A acc.length c)) ∧ W1.frozen? ⟨W.heap.size, 0, none⟩ = false ∧ W1.frozen? ⟨W.heap.size, 1, none⟩ = false ∧ W1.frozen? ⟨W.heap.size, 2, none⟩ = false ∧ W1.frozen? ⟨g, 2, none⟩ = false :=
  ⟨⟨(blk_cell h.h2 0).trans rfl, (blk_cell h.h2 1).trans rfl, (blk_cell h.h2 2).trans rfl⟩, ⟨(blk_cell h.h3 0).trans rfl, (blk_cell h.h3 1).trans rfl, (blk_cell h.h3 2).trans rfl⟩, blk_frozen h.h2 0, blk_frozen h.h2 1, blk_frozen h.h2 2, blk_frozen h.h3 2⟩
end
set_option maxHeartbeats 8000000 in
set_option maxRecDepth 100000 in
theorem rtm_calls (b : Nat) (B1 B2 : Nat) (e1 e2 : Ents) (N : Nat) : ∀ (l : List UInt8) (W : World), l.length < N → N ≤ 70000 → RM b l B1 B2 e1 e2 W → Calls Tryz.prog 60 #[.pointer (some ⟨b, 0, none⟩)] W (TmQ b l B1 B2 e1 e2 W) := by
  induction N with
  | zero => intro l W h; omega
  | succ N ih =>
    intro l W hN hN7 hRM
    have IH := Aside0.mk ih
    have HN := Aside0.mk (show l.length < N + 1 ∧ N + 1 ≤ 70000 from ⟨hN, hN7⟩)
    have HLT := Aside0.mk hRM.lt
    have HF := Aside0.mk (FH.mk (hRM.keep (below_alloc (Below.refl W.heap.size W) (.cells #[.int .i64 0, .int .i64 0, .slice none 0 0] 50))) (blk_new W _) (KR.below (Nat.le_of_lt hRM.lt) (below_alloc (Below.refl W.heap.size W) (.cells #[.int .i64 0, .int .i64 0, .slice none 0 0] 50))) hRM.lt)
    have HSZ1 := Aside0.mk (show W.heap.size < (W.alloc (.cells #[.int .i64 0, .int .i64 0, .slice none 0 0] 50)).heap.size by simp)
    clear ih hN hN7 hRM
    go_enter Tryz.func60, Tryz.ntmps60
    go_upto_region 1 with (fail)
    generalize (W.alloc (.cells #[.int .i64 0, .int .i64 0, .slice none 0 0] 50)) = W1 at *
    have HH := Aside0.mk (rhd_calls b l B1 B2 e1 e2 W1 (HF.out).rm (by have := HN.out; omega))
    go_wp2_with fail
    refine (HH.out).mono ?_
    rintro E w2 ⟨hk, hE⟩
    rcases hE with ⟨hn, rfl⟩ | ⟨k, n, r, hv, rfl, hr⟩
    · have HK := Aside0.mk ((HF.out).kr.trans hk)
      have HV := Aside0.mk (show tmR e1 e2 l = none by unfold tmR; rw [hn]; rfl)
      clear hn hk HF HH
      unfold pwrong
      go_wp2
      exact ⟨rfl, HK.out, .inl ⟨HV.out, rfl⟩⟩
    · have HF2 := Aside0.mk ((HF.out).call hr hk)
      have HSZ2 := Aside0.mk (show W.heap.size < w2.heap.size from Nat.lt_of_lt_of_le HSZ1.out hk.keep.1)
      have HV := Aside0.mk (show tmR e1 e2 l = tmA e1 e2 (k, n) [] r by unfold tmR; rw [hv]; rfl)
      have HLR := Aside0.mk (hdR_le hv)
      clear hr hk hv HF HH HSZ1
      go_upto_region 2 with (fail)
      have HFT := Aside0.mk (show FT b r B1 B2 e1 e2 W (w2.alloc (.cells #[.int .i64 k, .int .i64 n, .slice none 0 0] 50)) w2.heap.size (k, n) [] none 0 from by
        have h := (HF2.out).below (below_alloc (Below.refl w2.heap.size w2) (.cells #[.int .i64 k, .int .i64 n, .slice none 0 0] 50))
        exact ⟨h.rm, h.h2, blk_new w2 _, Kd.R_nil _ _ _ _ _, h.kr, h.lt, HSZ2.out⟩)
      clear HF2
      generalize (w2.alloc (.cells #[.int .i64 k, .int .i64 n, .slice none 0 0] 50)) = w3 at *
      generalize w2.heap.size = g at *
      go_loopg [] r.length (fun gg wi => ∃ (acc : List S50) (l1 : List UInt8) (A : Option Addr) (c : Nat), l1.length ≤ gg ∧ Aside0 (tmR e1 e2 l = tmA e1 e2 (k, n) acc l1) ∧ Aside0 (acc.length + l1.length ≤ r.length) ∧ Aside0 (FT b l1 B1 B2 e1 e2 W wi g (k, n) acc A c))
      case atStart => exact ⟨[], r, none, 0, Nat.le_refl _, HV, ⟨by simp⟩, HFT⟩
      case round =>
        clear HFT HV
        obtain ⟨acc, l1, A, c, hgg, HE, HL, HF⟩ := hrel
        obtain ⟨s, hs⟩ : ∃ s : ByteArray, s = ⟨l1.toArray⟩ := ⟨_, rfl⟩
        have HS := Aside0.mk hs
        have HSD := Aside0.mk (show s.data.toList = l1 by rw [hs])
        have c0 := (HF.out).rm.rt.cells.1.1
        have f0 := (HF.out).rm.rt.cells.1.2
        rw [← hs] at c0
        have HP := Aside0.mk (fun (W1 : World) => Tryz.strings_HasPrefix s ⟨#[32]⟩ W1)
        rw [HSD.out, show (ByteArray.mk #[32]).data.toList = [32] from rfl] at HP
        clear hs
        go_wp2_with fail
        refine (HP.out _).mono ?_
        rintro E w4 ⟨rfl, hw⟩
        subst hw
        cases q : Lib.hasPrefix l1 [32] with
        | false =>
          have HV := Aside0.mk (tmA_end (e1 := e1) (e2 := e2) (kn := (k, n)) (acc := acc) q)
          clear q c0 f0 HP HS HSD
          obtain ⟨⟨c0, c1, c2⟩, ⟨d0, d1, d2⟩, f0, f1, f2, _⟩ := (HF.out).cells
          have hlt := (HF.out).lt
          have HB0 := Aside0.mk (blk_set (blk_set (blk_set (HF.out).h2 0 (.int .i64 k)) 1 (.int .i64 n)) 2 (.slice A acc.length c))
          have HK0 := Aside0.mk ((((HF.out).kr.far hlt (Nat.le_refl _) 0 (.int .i64 k)).far hlt (Nat.le_refl _) 1 (.int .i64 n)).far hlt (Nat.le_refl _) 2 (.slice A acc.length c))
          have HR0 := Aside0.mk ((((HF.out).rm.rt.far (g := W.heap.size) (by omega) 0 (.int .i64 k)).far (g := W.heap.size) (by omega) 1 (.int .i64 n)).far (g := W.heap.size) (by omega) 2 (.slice A acc.length c))
          have hne : ∀ q, g < q → q ≠ W.heap.size := fun q hq => by have := (HF.out).lt3; omega
          have HW0 := Aside0.mk (Kd.R_far (p := ⟨W.heap.size, 2, none⟩) (Kd.R_far (p := ⟨W.heap.size, 1, none⟩) (Kd.R_far (p := ⟨W.heap.size, 0, none⟩) (HF.out).row hne (.int .i64 k)) hne (.int .i64 n)) hne (.slice A acc.length c))
          clear hlt hne
          go_wp2
          refine bodyPost_ret (results_single rfl (.cell W.heap.size 50 #[.int .i64 k, .int .i64 n, .slice A acc.length c] (0, 0) _ rfl HB0.out Tryz.underlying50 rfl (by kernel_rfl) .nil)) rfl ?_
          exact ⟨HK0.out, .inr ⟨⟨k, n, acc⟩, l1, .slice A acc.length c, HE.out.trans HV.out, rfl, Kd.R_mono HW0.out (fun q hq => by have := (HF.out).lt3; omega), HR0.out⟩⟩
        | true =>
          have HQ := Aside0.mk q
          have HP1 := Aside0.mk (hp_len q)
          have h1 : 1 ≤ s.size := by rw [Lib.size_eq, HSD.out]; exact hp_len q
          have HF1 := (HF.out).set (s.extract 1 s.size)
          have hx : (s.extract 1 s.size).data.toList = l1.drop 1 := by rw [Lib.extract_to_end, HSD.out]
          rw [hx] at HF1
          have HF1 := Aside0.mk HF1
          have HX := Aside0.mk hx
          clear q hx HP
          go_upto_region 4 with (fail)
          clear c0 f0 HF h1
          generalize (w4.setCell ⟨b, 0, none⟩ (.string (s.extract 1 s.size))) = w5 at *
          obtain ⟨s1, hs1⟩ : ∃ s1 : ByteArray, s.extract 1 s.size = s1 := ⟨_, rfl⟩
          rw [hs1] at HX
          clear hs1
          have hs1 : s1 = ⟨(l1.drop 1).toArray⟩ := ba_eq HX.out
          have c0 := (HF1.out).rm.rt.cells.1.1
          have f0 := (HF1.out).rm.rt.cells.1.2
          rw [← hs1] at c0
          have HP := Aside0.mk (fun (W1 : World) => Tryz.strings_HasPrefix s1 ⟨#[40]⟩ W1)
          rw [HX.out, show (ByteArray.mk #[40]).data.toList = [40] from rfl] at HP
          clear hs1
          go_wp2_with fail
          refine (HP.out _).mono ?_
          rintro E w6 ⟨rfl, hw⟩
          subst hw
          cases q2 : Lib.hasPrefix (l1.drop 1) [40] with
          | false =>
            have HV := Aside0.mk (tmA_head (e1 := e1) (e2 := e2) (kn := (k, n)) (acc := acc) HQ.out q2)
            have HH := Aside0.mk (fun (W7 : World) (hW : Below w6.heap.size w6 W7) => rhd_calls b (l1.drop 1) B1 B2 e1 e2 W7 ((HF1.out).rm.keep hW) (by have := HL.out; have := HN.out; have := HLR.out; rw [List.length_drop]; omega))
            clear c0 f0
            cases qh : hdR e1 e2 (l1.drop 1) with
            | none =>
              rw [qh] at HV
              have HV := Aside0.mk (show tmR e1 e2 l = none from HE.out.trans HV.out)
              have HQH := Aside0.mk qh
              have hq := (HF1.out).cells.2.1.2.2
              have hd := below_drew (Below.refl w6.heap.size w6)
              have HK := Aside0.mk (fun (W7 : World) (hW : Below w6.heap.size w6 W7) => pw_cell_below hW hq)
              clear hq
              have HKR := Aside0.mk ((HF1.out).kr.trans (KR.below (Nat.le_of_lt (HF1.out).rm.lt) hd))
              go_upto_region 5 with (fail)
              have hq := HK.out _ hd
              refine wp_region_any (by kernel_rfl) ?_
              change wpAny _ _ _ _ _ _ _ (World.drew _)
              refine wpAny_ready (rs := [0, 2]) (by kernel_rfl) (by simp) ?_
              refine AllReady.cons rfl (fun K hK => ?_) ?_
              · go_simp
                refine hK _ _ ?_
                clear hK K
                refine wpAny_ready (rs := [1, 2]) (by kernel_rfl) (by simp) ?_
                refine AllReady.cons rfl (fun K hK => ?_) ?_
                · go_simp
                  refine hK _ _ ?_
                  clear hK K
                  refine wpAny_ready (rs := [2]) (by kernel_rfl) (by simp) ?_
                  refine AllReady.cons rfl (fun K hK => ?_) ?_
                  · go_simp
                    refine hK _ _ ?_
                    clear hK K
                    refine wpAny_ready (rs := [3]) (by kernel_rfl) (by simp) ?_
                    refine AllReady.cons rfl (fun K hK => ?_) ?_
                    · go_simp
                      go_wp2_with (go_at_call 104; refine (HH.out _ hd).mono ?_; rintro E w8 ⟨hk, hE⟩; (rcases hE with ⟨_, rfl⟩ | ⟨k4, n4, r4, hv, _⟩); (exact ⟨rfl, (HKR.out).trans hk, .inl ⟨HV.out, rfl⟩⟩); (exact absurd (HQH.out.symm.trans hv) (by simp)))
                    exact AllReady.nil
                  exact AllReady.nil
                refine AllReady.cons rfl (fun K hK => ?_) ?_
                · go_simp
                  refine hK _ _ ?_
                  clear hK K
                  refine wpAny_ready (rs := [1, 3]) (by kernel_rfl) (by simp) ?_
                  refine AllReady.cons rfl (fun K hK => ?_) ?_
                  · go_simp
                    refine hK _ _ ?_
                    clear hK K
                    refine wpAny_ready (rs := [3]) (by kernel_rfl) (by simp) ?_
                    refine AllReady.cons rfl (fun K hK => ?_) ?_
                    · go_simp
                      go_wp2_with (go_at_call 104; refine (HH.out _ hd).mono ?_; rintro E w8 ⟨hk, hE⟩; (rcases hE with ⟨_, rfl⟩ | ⟨k4, n4, r4, hv, _⟩); (exact ⟨rfl, (HKR.out).trans hk, .inl ⟨HV.out, rfl⟩⟩); (exact absurd (HQH.out.symm.trans hv) (by simp)))
                    exact AllReady.nil
                  refine AllReady.cons rfl (fun K hK => ?_) ?_
                  · go_simp
                    go_wp2_with (go_at_call 104; refine (HH.out _ hd).mono ?_; rintro E w8 ⟨hk, hE⟩; (rcases hE with ⟨_, rfl⟩ | ⟨k4, n4, r4, hv, _⟩); (exact ⟨rfl, (HKR.out).trans hk, .inl ⟨HV.out, rfl⟩⟩); (exact absurd (HQH.out.symm.trans hv) (by simp)))
                  exact AllReady.nil
                exact AllReady.nil
              refine AllReady.cons rfl (fun K hK => ?_) ?_
              · go_simp
                refine hK _ _ ?_
                clear hK K
                refine wpAny_ready (rs := [0, 3]) (by kernel_rfl) (by simp) ?_
                refine AllReady.cons rfl (fun K hK => ?_) ?_
                · go_simp
                  refine hK _ _ ?_
                  clear hK K
                  refine wpAny_ready (rs := [1, 3]) (by kernel_rfl) (by simp) ?_
                  refine AllReady.cons rfl (fun K hK => ?_) ?_
                  · go_simp
                    refine hK _ _ ?_
                    clear hK K
                    refine wpAny_ready (rs := [3]) (by kernel_rfl) (by simp) ?_
                    refine AllReady.cons rfl (fun K hK => ?_) ?_
                    · go_simp
                      go_wp2_with (go_at_call 104; refine (HH.out _ hd).mono ?_; rintro E w8 ⟨hk, hE⟩; (rcases hE with ⟨_, rfl⟩ | ⟨k4, n4, r4, hv, _⟩); (exact ⟨rfl, (HKR.out).trans hk, .inl ⟨HV.out, rfl⟩⟩); (exact absurd (HQH.out.symm.trans hv) (by simp)))
                    exact AllReady.nil
                  refine AllReady.cons rfl (fun K hK => ?_) ?_
                  · go_simp
                    go_wp2_with (go_at_call 104; refine (HH.out _ hd).mono ?_; rintro E w8 ⟨hk, hE⟩; (rcases hE with ⟨_, rfl⟩ | ⟨k4, n4, r4, hv, _⟩); (exact ⟨rfl, (HKR.out).trans hk, .inl ⟨HV.out, rfl⟩⟩); (exact absurd (HQH.out.symm.trans hv) (by simp)))
                  exact AllReady.nil
                refine AllReady.cons rfl (fun K hK => ?_) ?_
                · go_simp
                  go_wp2_with (go_at_call 104; refine (HH.out _ hd).mono ?_; rintro E w8 ⟨hk, hE⟩; (rcases hE with ⟨_, rfl⟩ | ⟨k4, n4, r4, hv, _⟩); (exact ⟨rfl, (HKR.out).trans hk, .inl ⟨HV.out, rfl⟩⟩); (exact absurd (HQH.out.symm.trans hv) (by simp)))
                exact AllReady.nil
              exact AllReady.nil
            | some p =>
              obtain ⟨⟨k4, n4⟩, r4⟩ := p
              rw [qh] at HV
              have HV := Aside0.mk (show tmR e1 e2 l = tmA e1 e2 (k, n) (acc ++ [⟨k4, n4, []⟩]) r4 from HE.out.trans HV.out)
              have HR4 := Aside0.mk (hdR_le qh)
              have hq := (HF1.out).cells.2.1.2.2
              have hd := below_drew (Below.refl w6.heap.size w6)
              have HK := Aside0.mk (fun (W7 : World) (hW : Below w6.heap.size w6 W7) => pw_cell_below hW hq)
              have HH2 : Aside0 (Calls Tryz.prog 104 #[.pointer (some ⟨b, 0, none⟩)] w6.drew fun E w' => E = .returned (.agg #[.int .i64 k4, .int .i64 n4, .slice none 0 0]) ∧ RT b r4 (.map (some B1)) (.map (some B2)) w' ∧ KR b w6.drew w') := ⟨(HH.out _ hd).mono fun E w' hE => by
                obtain ⟨hk, ⟨h0, _⟩ | ⟨k5, n5, r5, hv, rfl, hr⟩⟩ := hE
                · rw [qh] at h0; cases h0
                · rw [qh] at hv
                  cases hv
                  exact ⟨rfl, hr, hk⟩⟩
              have HFD := Aside0.mk ((HF1.out).below hd)
              have HLB := Aside0.mk (show (acc.length + 1) * 40 ≤ 140737488355328 by have := HL.out; have := HN.out; have := HLR.out; omega)
              clear hq qh
              go_upto_region 5 with (fail)
              have hq := HK.out _ hd
              refine wp_region_noPanic ?_
              go_region_law (first
                | (go_simp; go_at_call 104; refine (HH2.out).mono ?_; rintro E w8 ⟨rfl, hr, hk⟩; have HF8 := Aside0.mk ((HFD.out).call hr hk); clear hr hk; have m2 := (HF8.out).cells.2.1.2.2; have l0 := pw_cell_below (below_alloc (Below.refl w8.heap.size w8) (.cells #[.int .i64 k4, .int .i64 n4, .slice none 0 0] 50)) m2)
                | (refine Kd.R_append_step k50 (w0 := w8) (W := w8) W.heap.size (by simp [Region.wanted]) (.tmp 27) (.tmp 30) 48 50 (.agg #[.int .i64 0, .int .i64 0, .slice none 0 0]) 40 rfl Tryz.underlying48 Q.info50 rfl (show 0 < 3 by decide) (by decide) (.slice A acc.length c) acc (⟨k4, n4, []⟩ : S50) [.int .i64 k4, .int .i64 n4, .slice none 0 0] (fun k => g < k) (fun _ => False) (by rfl) (by rfl) (Q.k50_mkM _ _ _ (⟨k4, n4, []⟩ : S50) (Kd.R_nil _ _ _ _ _)) (fun _ hk => hk.elim) (fun k hk => Nat.lt_of_lt_of_le (blk_lt (HF8.out).h3) hk) (HF8.out).row (Below.refl _ _) (by have := (HF8.out).lt3; have := blk_lt (HF8.out).h3; omega) HLB.out ?_; intro v5 w9 ho5 hb5 hg5 hat5; (obtain ⟨A9, c9, rfl⟩ := Kd.R_slice ho5); have HF9 := Aside0.mk ((HF8.out).push ho5 hb5 hg5); have h6 := (blk_grown (HF8.out).h3 hg5 (fun e => by have := (HF8.out).row.1 _ e.symm; omega)); have c6 : w9.cell? ⟨g, 2, none⟩ = some (.slice A acc.length c) := (blk_cell h6 2).trans rfl; have f6 : w9.frozen? ⟨g, 2, none⟩ = false := blk_frozen h6 2; clear h6 ho5 hb5 hg5 hat5)
                | fail)
              all_goals
                refine NoPanic.normal ?_
                go_wp2
                go_roundg r4.length
                case measure => have := HR4.out; have := HP1.out; rw [List.length_drop] at *; simp only [List.length_cons, List.length_nil] at *; omega
                case rel => exact ⟨acc ++ [⟨k4, n4, []⟩], r4, A9, c9, Nat.le_refl _, HV, ⟨by have h1 := HR4.out; have h2 := HP1.out; have h3 := HL.out; rw [List.length_drop] at h1; simp only [List.length_cons, List.length_nil] at h2; rw [List.length_append, List.length_singleton]; omega⟩, HF9⟩
          | true =>
            have HV := Aside0.mk (tmA_sub (e1 := e1) (e2 := e2) (kn := (k, n)) (acc := acc) HQ.out q2)
            have HP2 := Aside0.mk (hp_len q2)
            have h1 : 1 ≤ s1.size := by rw [Lib.size_eq, HX.out]; exact hp_len q2
            have HF2 := (HF1.out).set (s1.extract 1 s1.size)
            have hx : (s1.extract 1 s1.size).data.toList = (l1.drop 1).drop 1 := by rw [Lib.extract_to_end, HX.out]
            rw [hx] at HF2
            have HF2 := Aside0.mk HF2
            clear q2 hx HP
            go_upto_region 7 with (fail)
            clear c0 f0 HF1 h1
            generalize (w6.setCell ⟨b, 0, none⟩ (.string (s1.extract 1 s1.size))) = w7 at *
            have HLB := Aside0.mk (show (acc.length + 1) * 40 ≤ 140737488355328 by have := HL.out; have := HN.out; have := HLR.out; omega)
            have HLD := Aside0.mk (show ((l1.drop 1).drop 1).length + 2 ≤ l1.length from by
              have h1 := HP1.out
              have h2 := HP2.out
              rw [List.length_drop] at h2
              rw [List.length_drop, List.length_drop]
              simp only [List.length_cons, List.length_nil] at h1 h2
              omega)
            generalize (l1.drop 1).drop 1 = l3 at *
            have HR := Aside0.mk (IH.out l3 w7 (by have := HN.out; have := HL.out; have := HLD.out; have := HLR.out; omega) (by have := HN.out; omega) (HF2.out).rm)
            have HG7 := Aside0.mk (show g < w7.heap.size from blk_lt (HF2.out).h3)
            go_wp2_with fail
            refine (HR.out).mono ?_
            rintro E w8 ⟨hk, hE⟩
            rcases hE with ⟨hn, rfl⟩ | ⟨t, r5, v, hv, rfl, hR, hr⟩
            · have HK := Aside0.mk ((HF2.out).kr.trans hk)
              have HV2 := Aside0.mk (show tmA e1 e2 (k, n) acc l1 = none by rw [HV.out, hn]; rfl)
              clear hk hn HR
              unfold pwrong
              go_wp2
              exact ⟨rfl, HK.out, .inl ⟨HE.out.trans HV2.out, rfl⟩⟩
            · obtain ⟨A3, c3, rfl⟩ := Kd.R_slice hR
              have HV5 := Aside0.mk hv
              have HLT5 := Aside0.mk (tmR_le hv)
              have HF8 := Aside0.mk ((HF2.out).call hr hk)
              have HR8 := Aside0.mk (Kd.R_new' hR (Kd.R_lt (HF2.out).row))
              clear hk hv hR hr HF2 HR
              go_upto_region 8 with (fail)
              have HX9 := Aside0.mk (blk_new w8 (.cells #[.int .i64 t.f0, .int .i64 t.f1, .slice A3 t.f2.length c3] 50))
              have HF9 := Aside0.mk ((HF8.out).below (below_alloc (Below.refl w8.heap.size w8) (.cells #[.int .i64 t.f0, .int .i64 t.f1, .slice A3 t.f2.length c3] 50)))
              have HR9 := Aside0.mk (Kd.R_below HR8.out (below_alloc (Below.refl w8.heap.size w8) (.cells #[.int .i64 t.f0, .int .i64 t.f1, .slice A3 t.f2.length c3] 50)))
              have HBN := Aside0.mk (show w8.heap.size ≠ b ∧ g < w8.heap.size from by have := blk_lt (HF8.out).h3; have := (HF8.out).lt; have := (HF8.out).lt3; exact ⟨by omega, by omega⟩)
              clear HF8 HR8
              generalize (w8.alloc (.cells #[.int .i64 t.f0, .int .i64 t.f1, .slice A3 t.f2.length c3] 50)) = w9 at *
              generalize w8.heap.size = b4 at *
              have p4 : w9.cell? ⟨b4, 2, none⟩ = some (.slice A3 t.f2.length c3) := (blk_cell HX9.out 2).trans rfl
              by_cases hz : t.f2.length = 0
              · have HBAD := Aside0.mk (show tmA e1 e2 (k, n) acc l1 = none by rw [HV.out, HV5.out]; simp only [Option.bind_some]; rw [if_pos hz])
                have HK := Aside0.mk (HF9.out).kr
                go_wp2
                exact ⟨rfl, HK.out, .inl ⟨HE.out.trans HBAD.out, rfl⟩⟩
              · have HZ0 := Aside0.mk hz
                obtain ⟨s5, hs5⟩ : ∃ s5 : ByteArray, s5 = ⟨r5.toArray⟩ := ⟨_, rfl⟩
                have HS5 := Aside0.mk (show s5.data.toList = r5 by rw [hs5])
                have c0 := (HF9.out).rm.rt.cells.1.1
                have f0 := (HF9.out).rm.rt.cells.1.2
                rw [← hs5] at c0
                have HP := Aside0.mk (fun (W1 : World) => Tryz.strings_HasPrefix s5 ⟨#[41]⟩ W1)
                rw [HS5.out, show (ByteArray.mk #[41]).data.toList = [41] from rfl] at HP
                clear hs5
                go_wp2_with fail
                refine (HP.out _).mono ?_
                rintro E w10 ⟨rfl, hw⟩
                subst hw
                cases q5 : Lib.hasPrefix r5 [41] with
                | false =>
                  have HBAD := Aside0.mk (show tmA e1 e2 (k, n) acc l1 = none by rw [HV.out, HV5.out]; simp only [Option.bind_some]; rw [if_neg HZ0.out, if_neg (by rw [q5]; exact Bool.false_ne_true)])
                  have HK := Aside0.mk (HF9.out).kr
                  clear q5
                  go_wp2
                  exact ⟨rfl, HK.out, .inl ⟨HE.out.trans HBAD.out, rfl⟩⟩
                | true =>
                  have HGO := Aside0.mk (show tmR e1 e2 l = tmA e1 e2 (k, n) (acc ++ [t]) (r5.drop 1) by rw [HE.out, HV.out, HV5.out]; simp only [Option.bind_some]; rw [if_neg HZ0.out, if_pos q5])
                  have HP5 := Aside0.mk (hp_len q5)
                  have h1 : 1 ≤ s5.size := by rw [Lib.size_eq, HS5.out]; exact hp_len q5
                  have hx : (s5.extract 1 s5.size).data.toList = r5.drop 1 := by rw [Lib.extract_to_end, HS5.out]
                  have HF13 := (HF9.out).set (s5.extract 1 s5.size)
                  rw [hx] at HF13
                  have HF13 := Aside0.mk HF13
                  have HX13 := Aside0.mk (blk_far HX9.out (p := ⟨b, 0, none⟩) (HBN.out).1 (.string (s5.extract 1 s5.size)))
                  have HR13 := Aside0.mk (Kd.R_far (p := ⟨b, 0, none⟩) (Kd.R_lower (base' := W.heap.size) (Kd.R_mono (ok' := fun k => (g < k ∧ some k ≠ (Value.slice A acc.length c).ownBlock)) HR9.out (fun q hq => ⟨by have := HG7.out; omega, hq.2⟩)) (by have := HG7.out; have := (HF9.out).lt3; omega)) (fun q hq => by have := (HF9.out).lt; have := (HF9.out).lt3; show q ≠ b; omega) (.string (s5.extract 1 s5.size)))
                  clear q5 hx HP
                  go_upto_region 11 with (fail)
                  clear c0 f0 h1 p4 HF9 HX9 HR9
                  generalize (w10.setCell ⟨b, 0, none⟩ (.string (s5.extract 1 s5.size))) = w13 at *
                  have p40 : w13.cell? ⟨b4, 0, none⟩ = some (.int .i64 t.f0) := (blk_cell HX13.out 0).trans rfl
                  have p41 : w13.cell? ⟨b4, 1, none⟩ = some (.int .i64 t.f1) := (blk_cell HX13.out 1).trans rfl
                  have p42 : w13.cell? ⟨b4, 2, none⟩ = some (.slice A3 t.f2.length c3) := (blk_cell HX13.out 2).trans rfl
                  have d2 := (HF13.out).cells.2.1.2.2
                  go_wp2_with ((with_reducible refine gate_builtin (b := .append) (xs := #[.tmp 66, .tmp 68]) rfl ?_); at_builtin; refine Kd.R_append k50 (w0 := w13) W.heap.size rfl (.tmp 66) (.tmp 68) 48 50 (.agg #[.int .i64 0, .int .i64 0, .slice none 0 0]) 40 rfl Tryz.underlying48 Q.info50 rfl (show 0 < 3 by decide) (by decide) (.slice A acc.length c) acc t [.int .i64 t.f0, .int .i64 t.f1, .slice A3 t.f2.length c3] (fun k => g < k) (fun k => g < k ∧ some k ≠ (Value.slice A acc.length c).ownBlock) rfl rfl (Q.k50_mkM _ _ _ t HR13.out) (fun _ hk => hk) (fun k hk => Nat.lt_of_lt_of_le (blk_lt (HF13.out).h3) hk) (HF13.out).row (Below.refl _ _) (by have := (HF13.out).lt3; have := blk_lt (HF13.out).h3; omega) HLB.out ?_; intro v5 w9 ho5 hb5 hg5 hat5; (obtain ⟨A9, c9, rfl⟩ := Kd.R_slice ho5); have HF9 := Aside0.mk ((HF13.out).push ho5 hb5 hg5); have h6 := (blk_grown (HF13.out).h3 hg5 (fun e => by have := (HF13.out).row.1 _ e.symm; omega)); have c6 : w9.cell? ⟨g, 2, none⟩ = some (.slice A acc.length c) := (blk_cell h6 2).trans rfl; have f6 : w9.frozen? ⟨g, 2, none⟩ = false := blk_frozen h6 2; clear h6 ho5 hb5 hg5 hat5)
                  have HLN := Aside0.mk (show (r5.drop 1).length + 3 ≤ l1.length from by
                    have h1 := HLD.out
                    have h2 := HP5.out
                    have h3 : r5.length ≤ l3.length := HLT5.out
                    rw [List.length_drop]
                    simp only [List.length_cons, List.length_nil] at h2
                    omega)
                  go_roundg (r5.drop 1).length
                  case measure => have := HLN.out; omega
                  case rel => exact ⟨acc ++ [t], r5.drop 1, A9, c9, Nat.le_refl _, HGO, ⟨by have := HL.out; have := HLN.out; rw [List.length_append, List.length_singleton]; omega⟩, HF9⟩
end Go.Proofs.YthflpbgloeimfaaGreatDoor.H
namespace Go.Proofs.YthflpbgloeimfaaGreatDoor.H
open Go.RowKit Go.Proofs.YthflpbgloeimfaaGreatDoorW.PrintWords Go.Proofs.YthflpbgloeimfaaGreatDoorW.PrintLast Go.Proofs.YthflpbgloeimfaaGreatDoorW.PrintMore
open Go.Proofs.YthflpbgloeimfaaGreatDoor.Q (S47 k47 rd_T47 z47 at_T47 S50 k50 rd_T50 z50 at_T50 S52 k52 rd_T52 at_T52 z52 S71 k71 rd_T71 at_T71)
set_option linter.unusedVariables false
set_option linter.unusedSimpArgs false
def MX (w : World) : Prop := ∃ m : Int, w.cell? ⟨0, 0, none⟩ = some (.int .i64 m)
theorem MX.below {w w1 : World} (h : MX w) (hb : Below w.heap.size w w1) : MX w1 := by
  obtain ⟨m, hm⟩ := h
  exact ⟨m, pw_cell_below hb hm⟩
theorem cut_calls (s sep : ByteArray) (w : World) (hs : s.size ≤ 70000) (hm : MX w) :
    Calls Tryz.prog 58 #[.string s, .string sep] w fun e w' => e = .returned (.tuple #[.string ⟨(Lib.cut s.data.toList sep.data.toList).1.toArray⟩, .string ⟨(Lib.cut s.data.toList sep.data.toList).2.1.toArray⟩, .bool (Lib.cut s.data.toList sep.data.toList).2.2]) ∧ Below w.heap.size w w' := by
  obtain ⟨m, hm⟩ := hm
  refine (Tryz.strings_Cut s sep m w (by omega) hm).mono ?_
  rintro e w' ⟨rfl, n, rfl⟩
  exact ⟨rfl, pw_below_drewN (Below.refl _ _) n⟩
theorem cut_size (l s : List UInt8) : (Lib.cut l s).1.length ≤ l.length ∧ (Lib.cut l s).2.1.length ≤ l.length := by
  unfold Lib.cut
  split
  · simp only [List.length_take, List.length_drop]; omega
  · simp
def symR (l : List UInt8) : Option S71 :=
  if (Lib.cut l [32]).2.2 = true ∧ numOk (Lib.cut l [32]).2.1 = true ∧ nameB ⟨(Lib.cut l [32]).1.toArray⟩ = true then some ⟨⟨(Lib.cut l [32]).1.toArray⟩, num0V (Lib.cut l [32]).2.1⟩ else none
def SymQ (l : List UInt8) (W : World) (E : Ending) (w' : World) : Prop :=
  Below W.heap.size W w' ∧ (symR l = none ∧ E = pwrong ∨ ∃ y, symR l = some y ∧ E = .returned (.agg #[.string y.f0, .int .i64 y.f1]))
set_option maxHeartbeats 4000000 in
set_option maxRecDepth 100000 in
theorem symbol_calls (s : ByteArray) (W : World) (hs : s.size ≤ 70000) (hm : MX W) : Calls Tryz.prog 57 #[.string s] W (SymQ s.data.toList W) := by
  have HB := Aside0.mk (below_alloc (Below.refl W.heap.size W) (.cells #[.string ⟨#[]⟩, .int .i64 0] 71))
  have HX := Aside0.mk (blk_new W (.cells #[.string ⟨#[]⟩, .int .i64 0] 71))
  have HC := Aside0.mk (cut_calls s ⟨#[32]⟩ (W.alloc (.cells #[.string ⟨#[]⟩, .int .i64 0] 71)) hs (hm.below (below_alloc (Below.refl W.heap.size W) (.cells #[.string ⟨#[]⟩, .int .i64 0] 71))))
  rw [show (ByteArray.mk #[32]).data.toList = [32] from rfl] at HC
  have HSR := Aside0.mk (show symR s.data.toList = (if (Lib.cut s.data.toList [32]).2.2 = true ∧ numOk (Lib.cut s.data.toList [32]).2.1 = true ∧ nameB ⟨(Lib.cut s.data.toList [32]).1.toArray⟩ = true then some ⟨⟨(Lib.cut s.data.toList [32]).1.toArray⟩, num0V (Lib.cut s.data.toList [32]).2.1⟩ else none) from rfl)
  have hcs := (cut_size s.data.toList [32]).2
  rw [← Lib.size_eq] at hcs
  have HCS := Aside0.mk (show (ByteArray.mk (Lib.cut s.data.toList [32]).2.1.toArray).size ≤ 70000 by show (Lib.cut s.data.toList [32]).2.1.toArray.size ≤ 70000; rw [List.size_toArray]; omega)
  generalize (Lib.cut s.data.toList [32]).2.2 = ok at *
  generalize (Lib.cut s.data.toList [32]).2.1 = l2 at *
  generalize hn1 : (ByteArray.mk (Lib.cut s.data.toList [32]).1.toArray) = n1 at *
  clear hs hm hcs
  go_enter Tryz.func57, Tryz.ntmps57
  go_upto_region 1 with (fail)
  generalize W.alloc (.cells #[.string ⟨#[]⟩, .int .i64 0] 71) = W1 at *
  go_wp2_with fail
  refine (HC.out).mono ?_
  rintro E w2 ⟨rfl, hb⟩
  have HB2 := Aside0.mk (below_then HB.out (HB.out).size hb)
  have HX2 := Aside0.mk (blk_below HX.out hb)
  have HN := Aside0.mk (fun (W1 : World) => number0_calls ⟨l2.toArray⟩ W1 HCS.out)
  rw [show (ByteArray.mk l2.toArray).data.toList = l2 from rfl] at HN
  clear hb HB HX HC
  go_wp2_with fail
  refine (HN.out _).mono ?_
  rintro E w3 ⟨rfl, hb⟩
  have HB3 := Aside0.mk (below_then HB2.out (HB2.out).size hb)
  have HX3 := Aside0.mk (blk_below HX2.out hb)
  clear hb HB2 HX2 HN
  cases q1 : ok with
  | false =>
    have HV := Aside0.mk (show symR s.data.toList = none by rw [HSR.out, if_neg (fun h => by rw [q1] at h; exact Bool.false_ne_true h.1)])
    clear q1
    go_wp2
    exact ⟨rfl, HB3.out, .inl ⟨HV.out, rfl⟩⟩
  | true =>
    cases q2 : numOk l2 with
    | false =>
      have HV := Aside0.mk (show symR s.data.toList = none by rw [HSR.out, if_neg (fun h => by rw [q2] at h; exact Bool.false_ne_true h.2.1)])
      clear q2
      go_wp2
      exact ⟨rfl, HB3.out, .inl ⟨HV.out, rfl⟩⟩
    | true =>
      have HNM := Aside0.mk (name_calls n1 w3)
      have HQ2 := Aside0.mk q2
      have HQ1 := Aside0.mk q1
      clear q2 q1
      go_wp2_with fail
      refine (HNM.out).mono ?_
      rintro E w4 ⟨rfl, hb⟩
      have HB4 := Aside0.mk (below_then HB3.out (HB3.out).size hb)
      have HX4 := Aside0.mk (blk_below HX3.out hb)
      clear hb HB3 HX3 HNM
      cases q3 : nameB n1 with
      | false =>
        have HV := Aside0.mk (show symR s.data.toList = none by rw [HSR.out, if_neg (fun h => by rw [q3] at h; exact Bool.false_ne_true h.2.2)])
        clear q3
        go_wp2
        exact ⟨rfl, HB4.out, .inl ⟨HV.out, rfl⟩⟩
      | true =>
        have HV := Aside0.mk (show symR s.data.toList = some ⟨n1, num0V l2⟩ by rw [HSR.out, if_pos ⟨HQ1.out, HQ2.out, q3⟩])
        clear q3
        generalize num0V l2 = nv at *
        have c0 : w4.cell? ⟨W.heap.size, 0, none⟩ = some (.string ⟨#[]⟩) := (blk_cell HX4.out 0).trans rfl
        have c1 : w4.cell? ⟨W.heap.size, 1, none⟩ = some (.int .i64 0) := (blk_cell HX4.out 1).trans rfl
        have f0 : w4.frozen? ⟨W.heap.size, 0, none⟩ = false := blk_frozen HX4.out 0
        have f1 : w4.frozen? ⟨W.heap.size, 1, none⟩ = false := blk_frozen HX4.out 1
        have HS0 := Aside0.mk (blk_set (blk_set HX4.out 0 (.string n1)) 1 (.int .i64 nv))
        have HB5 := Aside0.mk (((HB4.out).setCell (p := ⟨W.heap.size, 0, none⟩) (Nat.le_refl _) (.string n1)).setCell (p := ⟨W.heap.size, 1, none⟩) (Nat.le_refl _) (.int .i64 nv))
        go_wp2
        refine bodyPost_ret (results_single rfl (.cell W.heap.size 71 #[.string n1, .int .i64 nv] (0, 0) _ rfl HS0.out Tryz.underlying71 rfl (by kernel_rfl) .nil)) rfl ?_
        exact ⟨HB5.out, .inr ⟨⟨n1, nv⟩, HV.out, rfl⟩⟩
end Go.Proofs.YthflpbgloeimfaaGreatDoor.H
namespace Go.Proofs.YthflpbgloeimfaaGreatDoor.H
open Go.RowKit Go.Proofs.YthflpbgloeimfaaGreatDoorW.PrintWords Go.Proofs.YthflpbgloeimfaaGreatDoorW.PrintLast Go.Proofs.YthflpbgloeimfaaGreatDoorW.PrintMore
open Go.Proofs.YthflpbgloeimfaaGreatDoor.Q (S47 k47 rd_T47 z47 at_T47 S50 k50 rd_T50 z50 at_T50 S52 k52 rd_T52 at_T52 z52 S71 k71 rd_T71 at_T71)
set_option linter.unusedVariables false
set_option linter.unusedSimpArgs false
def pbadS : Ending := .panicked [{ v := .iface 138 (.agg #[]), recovered := false }]
def SrtQ (b : Nat) (s : ByteArray) (l : List UInt8) (W : World) (E : Ending) (w' : World) : Prop :=
  KR b W w' ∧ (srtR [] l = none ∧ E = pbadS ∨ ∃ t r v, srtR [] l = some (t, r) ∧ E = .returned (.agg #[v]) ∧ Kd.R k47 47 w' W.heap.size (fun k => W.heap.size ≤ k) v t.f0 ∧ RD b s r w')
structure FS (b : Nat) (s : ByteArray) (W W1 : World) (l : List UInt8) (acc : List S47) (A : Option Addr) (c : Nat) : Prop where
  rd : RD b s l W1
  h2 : W1.heap[W.heap.size]? = some (.cells #[.slice none 0 0] 47 (0, 0))
  h3 : W1.heap[W.heap.size + 1]? = some (.cells #[.slice A acc.length c] 47 (0, 0))
  row : Kd.R k47 47 W1 W.heap.size (fun k => W.heap.size + 2 ≤ k) (.slice A acc.length c) acc
  kr : KR b W W1
  lt : b < W.heap.size
  hlt : W.heap.size + 2 ≤ W1.heap.size
section
variable {b : Nat} {s : ByteArray} {W W1 W2 : World} {l l2 : List UInt8} {acc : List S47} {A : Option Addr} {c : Nat}
theorem FS.call (h : FS b s W W1 l acc A c) (hr : RD b s l2 W2) (hk : KR b W1 W2) : FS b s W W2 l2 acc A c :=
  ⟨hr, hk.blk (by have := h.lt; omega) h.h2, hk.blk (by have := h.lt; omega) h.h3, hk.rr h.row (fun k hk => by have := h.lt; omega), h.kr.trans hk, h.lt, Nat.le_trans h.hlt hk.keep.1⟩
theorem FS.below (h : FS b s W W1 l acc A c) (hb : Below W1.heap.size W1 W2) : FS b s W W2 l acc A c :=
  h.call (h.rd.keep hb) (KR.below (by have := h.lt; have := h.hlt; omega) hb)
theorem FS.push {a : S47} {A2 : Option Addr} {c2 : Nat} (h : FS b s W W1 l acc A c) (ho : Kd.R k47 47 W2 W.heap.size (fun k => W.heap.size + 2 ≤ k) (.slice A2 (acc ++ [a]).length c2) (acc ++ [a])) (hb : Below W.heap.size W1 W2) (hg : W1.grownBy W2 (Value.slice A acc.length c).ownBlock) :
    FS b s W (W2.setCell ⟨W.heap.size + 1, 0, none⟩ (.slice A2 (acc.length + 1) c2)) l (acc ++ [a]) A2 c2 := by
  rw [show acc.length + 1 = (acc ++ [a]).length from by simp]
  have hrow : ∀ k, (Value.slice A acc.length c).ownBlock = some k → W.heap.size + 2 ≤ k := h.row.1
  have hlt := h.lt
  have h2 : W2.heap[W.heap.size]? = some (.cells #[.slice none 0 0] 47 (0, 0)) := blk_grown h.h2 hg (fun e => by have := hrow _ e.symm; omega)
  have h3 : W2.heap[W.heap.size + 1]? = some (.cells #[.slice A acc.length c] 47 (0, 0)) := blk_grown h.h3 hg (fun e => by have := hrow _ e.symm; omega)
  have h4 := blk_grown h.rd.blk hg (fun e => by have := hrow _ e.symm; omega)
  refine ⟨⟨blk_far h4 (by show b ≠ W.heap.size + 1; omega) _, h.rd.suf⟩, blk_far h2 (by show W.heap.size ≠ W.heap.size + 1; omega) _, blk_set h3 0 _, Kd.R_far ho (fun k hk => by show k ≠ W.heap.size + 1; omega) _, ⟨?_, ?_, ?_⟩, hlt, ?_⟩
  · exact (Below.trans h.kr.lo (Below.mono hb (Nat.le_of_lt hlt))).setCell (p := ⟨W.heap.size + 1, 0, none⟩) (by show b ≤ W.heap.size + 1; omega) _
  · have := Nat.le_trans h.kr.keep.1 hb.size
    simpa [World.setCell] using this
  · intro i hi hne _
    rw [Below.heap_setCell W2 ⟨W.heap.size + 1, 0, none⟩ _ i (by show i ≠ W.heap.size + 1; omega)]
    exact (hb.block i hi).trans (h.kr.keep.2 i hi hne (by simp))
  · have := Nat.le_trans h.hlt hb.size
    simpa [World.setCell] using this
theorem FS.cells (h : FS b s W W1 l acc A c) : (W1.cell? ⟨W.heap.size, 0, none⟩ = some (.slice none 0 0) ∧ W1.frozen? ⟨W.heap.size, 0, none⟩ = false) ∧ W1.cell? ⟨W.heap.size + 1, 0, none⟩ = some (.slice A acc.length c) ∧ W1.frozen? ⟨W.heap.size + 1, 0, none⟩ = false :=
  ⟨⟨(blk_cell h.h2 0).trans rfl, blk_frozen h.h2 0⟩, (blk_cell h.h3 0).trans rfl, blk_frozen h.h3 0⟩
theorem FS.len (h : FS b s W W1 l acc A c) : l.length ≤ s.size := h.rd.le
end
theorem skp_t {l p : List UInt8} (h : Lib.hasPrefix l p = true) : skp l p = l.drop p.length := by unfold skp; rw [if_pos h]
theorem skp_f {l p : List UInt8} (h : Lib.hasPrefix l p = false) : skp l p = l := by unfold skp; rw [h]; rfl
set_option maxHeartbeats 8000000 in
set_option maxRecDepth 100000 in
theorem sort_calls (b : Nat) (s : ByteArray) (hs : s.size ≤ 70000) (N : Nat) : ∀ (l : List UInt8) (W : World), l.length < N → RD b s l W → Calls Tryz.prog 103 #[.pointer (some ⟨b, 0, none⟩)] W (SrtQ b s l W) := by
  induction N with
  | zero => intro l W h; omega
  | succ N ih =>
    intro l W hN hRD
    have HS := Aside0.mk hs
    have IH := Aside0.mk ih
    have HN := Aside0.mk hN
    have hlt := blk_lt hRD.blk
    have HF := Aside0.mk (FS.mk (s := s) (acc := []) (A := none) (c := 0) (hRD.keep (below_alloc (below_alloc (Below.refl W.heap.size W) (.cells #[.slice none 0 0] 47)) (.cells #[.slice none 0 0] 47))) (blk_alloc (blk_new W _) _) (blk_at2 W (.cells #[.slice none 0 0] 47) (.cells #[.slice none 0 0] 47)) (Kd.R_nil _ _ _ _ _) (KR.below (Nat.le_of_lt hlt) (below_alloc (below_alloc (Below.refl W.heap.size W) (.cells #[.slice none 0 0] 47)) (.cells #[.slice none 0 0] 47))) hlt (by simp))
    have HT := Aside0.mk (fun (word : ByteArray) (l1 : List UInt8) (W1 : World) (h1 : RD b s l1 W1) (h2 : word.size ≤ 10) => take_calls b s word l1 W1 h1 hs h2)
    clear hs ih hN hRD hlt
    go_enter Tryz.func103, Tryz.ntmps103
    go_upto_region 2 with (fail)
    generalize ((W.alloc (.cells #[.slice none 0 0] 47)).alloc (.cells #[.slice none 0 0] 47)) = W1 at *
    go_loopg [] l.length (fun gg wi => ∃ (acc : List S47) (l1 : List UInt8) (A : Option Addr) (c : Nat), l1.length ≤ gg ∧ Aside0 (srtR [] l = srtR acc l1) ∧ Aside0 (acc.length + l1.length ≤ s.size) ∧ Aside0 (l1.length ≤ l.length) ∧ Aside0 (FS b s W wi l1 acc A c))
    case atStart => exact ⟨[], l, none, 0, Nat.le_refl _, ⟨rfl⟩, ⟨by have := (HF.out).len; simpa using this⟩, ⟨Nat.le_refl _⟩, HF⟩
    case round =>
      clear HF
      obtain ⟨acc, l1, A, c, hgg, HE, HL, HLL, HF⟩ := hrel
      have H1 := Aside0.mk (HT.out ⟨#[40]⟩ l1 wr (HF.out).rd (by decide))
      rw [show (⟨#[40]⟩ : ByteArray).data.toList = [40] from rfl] at H1
      go_wp2_with fail
      refine (H1.out).mono ?_
      rintro E w2 ⟨rfl, hr, hk⟩
      have HF2 := Aside0.mk ((HF.out).call hr hk)
      clear hr hk HF H1
      cases q : Lib.hasPrefix l1 [40] with
      | true =>
        rw [skp_t q] at HF2
        have HO := Aside0.mk (srtR_open (acc := acc) q)
        have HPL := Aside0.mk (hp_len q)
        have HR := Aside0.mk (IH.out (l1.drop 1) w2 (by have := HN.out; have := HLL.out; have := HPL.out; rw [List.length_drop]; simp only [List.length_cons, List.length_nil] at this; omega) (HF2.out).rd)
        have HLT2 := Aside0.mk (show b < w2.heap.size by have := (HF2.out).lt; have := (HF2.out).hlt; omega)
        clear q
        go_wp2_with fail
        refine (HR.out).mono ?_
        rintro E w3 ⟨hk, hE⟩
        rcases hE with ⟨hn, rfl⟩ | ⟨t, r, v, hv, rfl, hR, hr⟩
        · have HK := Aside0.mk ((HF2.out).kr.trans hk)
          have HN2 := Aside0.mk hn
          clear hk hn
          unfold pbadS
          go_wp2
          exact ⟨rfl, HK.out, .inl ⟨by rw [HE.out, HO.out, HN2.out]; rfl, rfl⟩⟩
        · have HV := Aside0.mk hv
          have HLR := Aside0.mk (srtR_less hv)
          obtain ⟨A3, c3, rfl⟩ := Kd.R_slice hR
          have HF3 := Aside0.mk ((HF2.out).call hr hk)
          have HR3 := Aside0.mk hR
          have HNW := Aside0.mk (Kd.R_new' hR (Kd.R_lt (HF2.out).row))
          have HSZ := Aside0.mk ((HF2.out).hlt)
          clear hr hk hR hv
          go_upto_region 4 with (fail)
          have HX4 := Aside0.mk (blk_new w3 (.cells #[.slice A3 t.f0.length c3] 47))
          have HF4 := Aside0.mk ((HF3.out).below (below_alloc (Below.refl w3.heap.size w3) (.cells #[.slice A3 t.f0.length c3] 47)))
          have HR4 := Aside0.mk (Kd.R_below HNW.out (below_alloc (Below.refl w3.heap.size w3) (.cells #[.slice A3 t.f0.length c3] 47)))
          have HB4 := Aside0.mk (show w3.heap.size ≠ b from by have := (HF3.out).lt; have := (HF3.out).hlt; omega)
          clear HF3 HNW HR3
          generalize (w3.alloc (.cells #[.slice A3 t.f0.length c3] 47)) = w4 at *
          generalize w3.heap.size = b4 at *
          have p4 : w4.cell? ⟨b4, 0, none⟩ = some (.slice A3 t.f0.length c3) := (blk_cell HX4.out 0).trans rfl
          by_cases hz : t.f0.length = 0
          · have HBAD := Aside0.mk (show srtR acc l1 = none by rw [HO.out, HV.out]; simp only [Option.bind_some]; rw [if_pos hz])
            have HK := Aside0.mk (HF4.out).kr
            go_wp2
            exact ⟨rfl, HK.out, .inl ⟨by rw [HE.out, HBAD.out], rfl⟩⟩
          · have HZ0 := Aside0.mk hz
            have H5 := Aside0.mk (HT.out ⟨#[41, 32, 62, 32]⟩ r w4 (HF4.out).rd (by decide))
            rw [show (⟨#[41, 32, 62, 32]⟩ : ByteArray).data.toList = [41, 32, 62, 32] from rfl] at H5
            go_wp2_with fail
            refine (H5.out).mono ?_
            rintro E w5 ⟨rfl, hr, hk⟩
            have HF5 := Aside0.mk ((HF4.out).call hr hk)
            have HX5 := Aside0.mk (hk.blk HB4.out HX4.out)
            have HR5 := Aside0.mk (hk.rr HR4.out (fun k hk2 => by have := HLT2.out; omega))
            clear hr hk HF4 H5 p4 HX4 HR4
            have p5 : w5.cell? ⟨b4, 0, none⟩ = some (.slice A3 t.f0.length c3) := (blk_cell HX5.out 0).trans rfl
            cases q2 : Lib.hasPrefix r [41, 32, 62, 32] with
            | false =>
              have HBAD := Aside0.mk (show srtR acc l1 = none by rw [HO.out, HV.out]; simp only [Option.bind_some]; rw [if_neg HZ0.out, q2]; rfl)
              have HK := Aside0.mk (HF5.out).kr
              clear q2
              go_wp2
              exact ⟨rfl, HK.out, .inl ⟨by rw [HE.out, HBAD.out], rfl⟩⟩
            | true =>
              rw [skp_t q2] at HF5
              have HGO := Aside0.mk (show srtR acc l1 = srtR (acc ++ [t]) (r.drop 4) by rw [HO.out, HV.out]; simp only [Option.bind_some]; rw [if_neg HZ0.out, q2]; rfl)
              have HPL2 := Aside0.mk (hp_len q2)
              clear q2
              obtain ⟨⟨c20, f20⟩, c30, f30⟩ := (HF5.out).cells
              have HZ := Aside0.mk ((HF5.out).hlt)
              have HR6 := Aside0.mk (Kd.R_lower (base' := W.heap.size) (Kd.R_mono (ok' := fun k => (W.heap.size + 2 ≤ k ∧ some k ≠ (Value.slice A acc.length c).ownBlock)) HR5.out (fun k hk => ⟨by have := HSZ.out; omega, hk.2⟩)) (by have := HSZ.out; omega))
              go_wp2_with ((with_reducible refine gate_builtin (b := .append) (xs := #[.tmp 21, .tmp 23]) rfl ?_); at_builtin; refine Kd.R_append k47 (w0 := w5) W.heap.size rfl (.tmp 21) (.tmp 23) 43 47 (.agg #[.slice none 0 0]) 24 rfl Tryz.underlying43 Q.info47 rfl (show 0 < 1 by decide) (by decide) (.slice A acc.length c) acc t [.slice A3 t.f0.length c3] (fun k => W.heap.size + 2 ≤ k) (fun k => W.heap.size + 2 ≤ k ∧ some k ≠ (Value.slice A acc.length c).ownBlock) rfl rfl (Q.k47_mkM _ _ _ t HR6.out) (fun _ hk => hk) (fun k hk => Nat.le_trans (HZ.out) hk) (HF5.out).row (Below.refl _ _) (Nat.le_trans (by omega) HZ.out) (by have := HL.out; have := HS.out; omega) ?_; intro v5 w6 ho5 hb5 hg5 hat5; (obtain ⟨A9, c9, rfl⟩ := Kd.R_slice ho5); have HF6 := Aside0.mk ((HF5.out).push ho5 hb5 hg5); have h6 := (blk_grown (HF5.out).h3 hg5 (fun e => by have := (HF5.out).row.1 _ e.symm; omega)); have c6 : w6.cell? ⟨W.heap.size + 1, 0, none⟩ = some (.slice A acc.length c) := (blk_cell h6 0).trans rfl; have f6 : w6.frozen? ⟨W.heap.size + 1, 0, none⟩ = false := blk_frozen h6 0; clear h6; clear ho5 hb5 hg5 hat5)
              have HLN := Aside0.mk (show (r.drop 4).length + 6 ≤ l1.length from by
                have h1 := HLR.out
                have h2 := HPL2.out
                have h3 := HPL.out
                rw [List.length_drop] at h1 ⊢
                simp only [List.length_cons, List.length_nil] at h2 h3
                omega)
              go_roundg (r.drop 4).length
              case measure => have := HLN.out; omega
              case rel => exact ⟨acc ++ [t], r.drop 4, A9, c9, Nat.le_refl _, ⟨by rw [HE.out, HGO.out]⟩, ⟨by have := HL.out; have := HLN.out; rw [List.length_append, List.length_singleton]; omega⟩, ⟨by have := HLL.out; have := HLN.out; omega⟩, HF6⟩
      | false =>
        rw [skp_f q] at HF2
        have H5 := Aside0.mk (HT.out ⟨#[111]⟩ l1 w2 (HF2.out).rd (by decide))
        rw [show (⟨#[111]⟩ : ByteArray).data.toList = [111] from rfl] at H5
        go_wp2_with fail
        refine (H5.out).mono ?_
        rintro E w3 ⟨rfl, hr, hk⟩
        have HF3 := Aside0.mk ((HF2.out).call hr hk)
        clear hr hk HF2 H5
        cases q2 : Lib.hasPrefix l1 [111] with
        | false =>
          have HBAD := Aside0.mk (srtR_none (acc := acc) q q2)
          have HK := Aside0.mk (HF3.out).kr
          clear q q2
          go_wp2
          exact ⟨rfl, HK.out, .inl ⟨by rw [HE.out, HBAD.out], rfl⟩⟩
        | true =>
          rw [skp_t q2] at HF3
          have H6 := Aside0.mk (HT.out ⟨#[32, 62, 32]⟩ (l1.drop 1) w3 (HF3.out).rd (by decide))
          rw [show (⟨#[32, 62, 32]⟩ : ByteArray).data.toList = [32, 62, 32] from rfl] at H6
          have HPL := Aside0.mk (hp_len q2)
          go_wp2_with fail
          refine (H6.out).mono ?_
          rintro E w4 ⟨rfl, hr, hk⟩
          have HF4 := Aside0.mk ((HF3.out).call hr hk)
          clear hr hk HF3 H6
          cases q3 : Lib.hasPrefix (l1.drop 1) [32, 62, 32] with
          | false =>
            have HGO := Aside0.mk (srtR_last (acc := acc) q q2 q3)
            have HF5 := HF4
            rw [skp_f q3] at HF5
            obtain ⟨⟨c20, f20⟩, c30, f30⟩ := (HF4.out).cells
            clear q q2 q3
            go_wp2
            refine bodyPost_ret (results_single rfl (.cell W.heap.size 47 #[.slice A acc.length c] (0, 0) _ rfl (blk_set (HF4.out).h2 0 _) Tryz.underlying47 rfl (by kernel_rfl) .nil)) rfl ?_
            have hlt := (HF5.out).lt
            refine ⟨⟨(HF5.out).kr.lo.setCell (p := ⟨W.heap.size, 0, none⟩) (Nat.le_of_lt hlt) _, ?_, ?_⟩, .inr ⟨⟨acc⟩, l1.drop 1, .slice A acc.length c, by rw [HE.out, HGO.out], rfl, ?_, ⟨blk_far (HF5.out).rd.blk (by show b ≠ W.heap.size; omega) _, (HF5.out).rd.suf⟩⟩⟩
            · have := (HF5.out).kr.keep.1
              simpa [World.setCell] using this
            · intro i hi hne _
              rw [Below.heap_setCell _ ⟨W.heap.size, 0, none⟩ _ i (by show i ≠ W.heap.size; omega)]
              exact (HF5.out).kr.keep.2 i hi hne (by simp)
            · exact Kd.R_mono (Kd.R_far (HF5.out).row (fun k hk => by show k ≠ W.heap.size; omega) _) (fun k hk => by omega)
          | true =>
            rw [skp_t q3] at HF4
            have HGO := Aside0.mk (srtR_more (acc := acc) q q2 q3)
            have HPL2 := Aside0.mk (hp_len q3)
            clear q q2 q3
            obtain ⟨⟨c20, f20⟩, c30, f30⟩ := (HF4.out).cells
            have HZ := Aside0.mk ((HF4.out).hlt)
            go_wp2_with ((with_reducible refine gate_builtin (b := .append) (xs := #[.tmp 36, .tmp 38]) rfl ?_); at_builtin; refine Kd.R_append k47 (w0 := w4) W.heap.size rfl (.tmp 36) (.tmp 38) 43 47 (.agg #[.slice none 0 0]) 24 rfl Tryz.underlying43 Q.info47 rfl (show 0 < 1 by decide) (by decide) (.slice A acc.length c) acc (⟨[]⟩ : S47) [.slice none 0 0] (fun k => W.heap.size + 2 ≤ k) (fun k => W.heap.size + 2 ≤ k ∧ some k ≠ (Value.slice A acc.length c).ownBlock) rfl rfl (Q.k47_mkM _ _ _ (⟨[]⟩ : S47) (Kd.R_nil _ _ _ _ _)) (fun _ hk => hk) (fun k hk => Nat.le_trans (HZ.out) hk) (HF4.out).row (Below.refl _ _) (Nat.le_trans (by omega) HZ.out) (by have := HL.out; have := HS.out; omega) ?_; intro v5 w6 ho5 hb5 hg5 hat5; (obtain ⟨A9, c9, rfl⟩ := Kd.R_slice ho5); have HF6 := Aside0.mk ((HF4.out).push ho5 hb5 hg5); have h6 := (blk_grown (HF4.out).h3 hg5 (fun e => by have := (HF4.out).row.1 _ e.symm; omega)); have c6 : w6.cell? ⟨W.heap.size + 1, 0, none⟩ = some (.slice A acc.length c) := (blk_cell h6 0).trans rfl; have f6 : w6.frozen? ⟨W.heap.size + 1, 0, none⟩ = false := blk_frozen h6 0; clear h6; clear ho5 hb5 hg5 hat5)
            have HLN := Aside0.mk (show ((l1.drop 1).drop 3).length + 4 ≤ l1.length from by
              have h2 := HPL2.out
              have h3 := HPL.out
              rw [List.length_drop] at h2
              rw [List.length_drop, List.length_drop]
              simp only [List.length_cons, List.length_nil] at h2 h3
              omega)
            go_roundg ((l1.drop 1).drop 3).length
            case measure => have := HLN.out; omega
            case rel => exact ⟨acc ++ [(⟨[]⟩ : S47)], (l1.drop 1).drop 3, A9, c9, Nat.le_refl _, ⟨by rw [HE.out, HGO.out]⟩, ⟨by have := HL.out; have := HLN.out; rw [List.length_append, List.length_singleton]; omega⟩, ⟨by have := HLL.out; have := HLN.out; omega⟩, HF6⟩
end Go.Proofs.YthflpbgloeimfaaGreatDoor.H
namespace Go.Proofs.YthflpbgloeimfaaGreatDoor.H
open Go.RowKit Go.Proofs.YthflpbgloeimfaaGreatDoorW.PrintWords Go.Proofs.YthflpbgloeimfaaGreatDoorW.PrintLast Go.Proofs.YthflpbgloeimfaaGreatDoorW.PrintMore
open Go.Proofs.YthflpbgloeimfaaGreatDoor.Q (S47 k47 rd_T47 z47 at_T47 S50 k50 rd_T50 z50 at_T50 S52 k52 rd_T52 at_T52 z52 S71 k71 rd_T71 at_T71)
set_option linter.unusedVariables false
set_option linter.unusedSimpArgs false
theorem sidle_calls (p q : Addr) (w : World) :
    CallsD Tryz.prog 102 #[.pointer (some p), .pointer (some q)] .returning w fun e u' w' => e = .returned (.tuple #[]) ∧ u' = .returning ∧ w' = w := by
  refine callsD_of_wpS Tryz.func102 rfl fun c₀ cs hu => ?_
  apply wpS_seq
  apply wpS_region
  simp [wpOpsS, go_sem, recoverD, hu, Tryz.ntmps102, Exit.thenS]
  apply wpS_seq
  apply wpS_region
  simp [wpOpsS, go_sem, Exit.thenS]
  refine wpS_cond (t := false) (by simp [Act.eval, Array.replicate]) ?_
  simp only [Bool.false_eq_true, if_false]
  refine wpS_of_wp (wp_skip ?_)
  cases c₀
  simp_all [bodyPostS, results, Tryz.results102]
set_option maxHeartbeats 4000000 in
set_option maxRecDepth 100000 in
theorem sbad_calls (a : Nat) (x e : Value) (w : World) (h0 : w.heap[a]? = some (.cells #[x] 47 (0, 0))) (h1 : w.heap[a + 1]? = some (.cells #[e] 26 (0, 0))) :
    CallsD Tryz.prog 102 #[.pointer (some ⟨a, 0, none⟩), .pointer (some ⟨a + 1, 0, none⟩)] (.panicking [{ v := .iface 138 (.agg #[]), recovered := false }]) w fun e u' w' =>
      e = .returned (.tuple #[]) ∧ u' = .panicking [{ v := .iface 138 (.agg #[]), recovered := true }] ∧ w'.heap[a]? = some (.cells #[.slice none 0 0] 47 (0, 0)) ∧ w'.heap[a + 1]? = some (.cells #[.int .i64 4] 26 (0, 0)) ∧ Below a w w' := by
  refine callsD_of_wpS Tryz.func102 rfl fun c₀ cs hu => ?_
  apply wpS_seq
  apply wpS_region
  simp [wpOpsS, go_sem, recoverD, hu, Tryz.ntmps102, Exit.thenS]
  refine wpS_of_wp ?_
  rw [show (#[Value.pointer (some ⟨a, 0, none⟩), Value.pointer (some ⟨a + 1, 0, none⟩)] ++ ((Array.replicate 15 undef).setIfInBounds 3 (Value.iface 138 (Value.agg #[]))).setIfInBounds 0 (Value.iface 138 (Value.agg #[]))) = #[Value.pointer (some ⟨a, 0, none⟩), Value.pointer (some ⟨a + 1, 0, none⟩), Value.iface 138 (Value.agg #[]), undef, undef, Value.iface 138 (Value.agg #[]), undef, undef, undef, undef, undef, undef, undef, undef, undef, undef, undef] from rfl]
  have hta : ∀ W : World, (Instr.typeAssert (Value.iface 138 (Value.agg #[])) 20 138 true).run Tryz.prog W = .ok (.tuple #[.agg #[], .bool true]) W := fun W => by kernel_rfl
  have HB := Aside0.mk (below_alloc (Below.refl w.heap.size w) (.cells #[] 138))
  have HQ0 := Aside0.mk hu
  have ha : a < w.heap.size := (Array.getElem?_eq_some_iff.1 h0).1
  generalize hQ : bodyPostS Tryz.prog Tryz.f102 c₀ cs _ = QQ
  have HQ := Aside0.mk hQ
  clear hQ
  go_upto_region 5 with (fail)
  have H0 := Aside0.mk (blk_below h0 HB.out)
  have H1 := Aside0.mk (blk_below h1 HB.out)
  clear h0 h1
  generalize w.alloc (.cells #[] 138) = W2 at *
  have c0 : W2.cell? ⟨a, 0, none⟩ = some x := (blk_cell H0.out 0).trans rfl
  have c3 : W2.cell? ⟨a + 1, 0, none⟩ = some e := (blk_cell H1.out 0).trans rfl
  have f0 : W2.frozen? ⟨a, 0, none⟩ = false := blk_frozen H0.out 0
  have f3 : W2.frozen? ⟨a + 1, 0, none⟩ = false := blk_frozen H1.out 0
  go_wp2
  rw [← HQ.out]
  have hB := Below.mono HB.out (show a ≤ w.heap.size from Nat.le_of_lt ha)
  clear c0 c3 f0 f3
  refine ⟨rfl, _, rfl, _, results_none rfl _ _ _, rfl, rfl, ?_, ?_, ?_⟩
  · exact blk_far (blk_set H0.out 0 _) (by show a ≠ a + 1; omega) _
  · exact blk_set (blk_far H1.out (by show a + 1 ≠ a; omega) _) 0 _
  · exact (hB.setCell (p := ⟨a, 0, none⟩) (Nat.le_refl a) _).setCell (p := ⟨a + 1, 0, none⟩) (Nat.le_succ a) _
def getSV (t : ByteArray) : Option S47 := (srtR [] t.data.toList).bind fun p => if p.2 = [] then some p.1 else none
def getSR (t : ByteArray) : Int × S47 := if 65536 < t.size then (3, ⟨[]⟩) else match getSV t with | none => (4, ⟨[]⟩) | some s => if schkV s = 0 then (0, s) else (6, ⟨[]⟩)
def GetSE (t : ByteArray) (w : World) (E : Ending) (w' : World) : Prop :=
  ∃ A c, E = .returned (.tuple #[.agg #[.slice A (getSR t).2.f0.length c], .int .i64 (getSR t).1]) ∧ Kd.R k47 47 w' w.heap.size (fun k => w.heap.size ≤ k) (.slice A (getSR t).2.f0.length c) (getSR t).2.f0 ∧ Below w.heap.size w w'
structure GS (w W : World) (x : Value) : Prop where
  hb : Below w.heap.size w W
  ha : W.heap[w.heap.size]? = some (.cells #[x] 47 (0, 0))
  he : W.heap[w.heap.size + 1]? = some (.cells #[.int .i64 0] 26 (0, 0))
theorem GS.start (w : World) : GS w ((w.alloc (.cells #[.slice none 0 0] 47)).alloc (.cells #[.int .i64 0] 26)) (.slice none 0 0) :=
  ⟨below_alloc (below_alloc (Below.refl _ _) _) _, blk_alloc (blk_new w _) _, blk_at2 w _ _⟩
theorem GS.below {w W W1 : World} {x : Value} (h : GS w W x) (hb : Below W.heap.size W W1) : GS w W1 x := ⟨below_then h.hb h.hb.size hb, blk_below h.ha hb, blk_below h.he hb⟩
theorem GS.call {w W W1 : World} {x : Value} {b : Nat} (h : GS w W x) (hk : KR b W W1) (hb : w.heap.size + 2 ≤ b) : GS w W1 x := ⟨Below.trans h.hb (Below.mono hk.lo (by omega)), hk.blk (by omega) h.ha, hk.blk (by omega) h.he⟩
theorem GS.cells {w W : World} {x : Value} (h : GS w W x) : (W.cell? ⟨w.heap.size, 0, none⟩ = some x ∧ W.frozen? ⟨w.heap.size, 0, none⟩ = false) ∧ W.cell? ⟨w.heap.size + 1, 0, none⟩ = some (.int .i64 0) ∧ W.frozen? ⟨w.heap.size + 1, 0, none⟩ = false :=
  ⟨⟨(blk_cell h.ha 0).trans rfl, blk_frozen h.ha 0⟩, (blk_cell h.he 0).trans rfl, blk_frozen h.he 0⟩
theorem GS.set0 {w W : World} {x : Value} (h : GS w W x) (u : Value) : GS w (W.setCell ⟨w.heap.size, 0, none⟩ u) u := ⟨h.hb.setCell (p := ⟨w.heap.size, 0, none⟩) (Nat.le_refl _) _, blk_set h.ha 0 u, blk_far h.he (by show w.heap.size + 1 ≠ w.heap.size; omega) _⟩
theorem run_mkfun3 (fn : Fn) (first cap : Array Value) (w : World) : (Instr.makeFunc fn first cap).run Tryz.prog w = .ok (.func fn first cap) w := rfl
theorem getSE_zero {t : ByteArray} {w W : World} {e : Int} (h : getSR t = (e, ⟨[]⟩)) (hb : Below w.heap.size w W) : GetSE t w (.returned (.tuple #[.agg #[.slice none 0 0], .int .i64 e])) W := by
  unfold GetSE
  rw [h]
  exact ⟨none, 0, rfl, Kd.R_nil _ _ _ _ _, hb⟩
theorem gets_panic {t : ByteArray} {w W : World} {x : Value} (h : getSR t = (4, ⟨[]⟩)) (hG : GS w W x) (tm : Array Value) (h2 : tm[2]? = some (.pointer (some ⟨w.heap.size, 0, none⟩))) (h3 : tm[3]? = some (.pointer (some ⟨w.heap.size + 1, 0, none⟩))) :
    bodyPostD Tryz.prog Tryz.f59 (GetSE t w) (Exit.panic [{ v := .iface 138 (.agg #[]), recovered := false }]) { tmps := tm, defers := [{ target := .fn (.func 102) #[.pointer (some ⟨w.heap.size, 0, none⟩), .pointer (some ⟨w.heap.size + 1, 0, none⟩)], args := #[] }] } W := by
  refine leaves_cons (f := 102) (args := #[.pointer (some ⟨w.heap.size, 0, none⟩), .pointer (some ⟨w.heap.size + 1, 0, none⟩)]) (by simp) (by simp [go_sem]) ?_
  refine (sbad_calls w.heap.size x _ W hG.ha hG.he).mono ?_
  rintro e u' w'' ⟨rfl, rfl, h0, h1, hb⟩
  have k0 : w''.cell? ⟨w.heap.size, 0, none⟩ = some (.slice none 0 0) := (blk_cell h0 0).trans rfl
  have k3 : w''.cell? ⟨w.heap.size + 1, 0, none⟩ = some (.int .i64 4) := (blk_cell h1 0).trans rfl
  have hE := getSE_zero (w := w) (W := w'') h (Below.trans hG.hb hb)
  simp [Leaves, settle, results, Tryz.results59, go_sem, h2, h3, k0, k3]
  exact hE
theorem gets_done {t : ByteArray} {w W : World} {A : Option Addr} {c : Nat} {s : S47} {e : Int} (h : getSR t = (e, s)) (hG : Below w.heap.size w W)
    (h0 : W.heap[w.heap.size]? = some (.cells #[.slice A s.f0.length c] 47 (0, 0))) (h1 : W.heap[w.heap.size + 1]? = some (.cells #[.int .i64 e] 26 (0, 0)))
    (hr : Kd.R k47 47 W w.heap.size (fun k => w.heap.size ≤ k) (.slice A s.f0.length c) s.f0)
    (tm : Array Value) (h2 : tm[2]? = some (.pointer (some ⟨w.heap.size, 0, none⟩))) (h3 : tm[3]? = some (.pointer (some ⟨w.heap.size + 1, 0, none⟩))) :
    bodyPostD Tryz.prog Tryz.f59 (GetSE t w) Exit.ret { tmps := tm, defers := [{ target := .fn (.func 102) #[.pointer (some ⟨w.heap.size, 0, none⟩), .pointer (some ⟨w.heap.size + 1, 0, none⟩)], args := #[] }] } W := by
  refine leaves_cons (f := 102) (args := #[.pointer (some ⟨w.heap.size, 0, none⟩), .pointer (some ⟨w.heap.size + 1, 0, none⟩)]) (by simp) (by simp [go_sem]) ?_
  refine (sidle_calls _ _ W).mono ?_
  rintro e' u' w'' ⟨rfl, rfl, rfl⟩
  have k0 : w''.cell? ⟨w.heap.size, 0, none⟩ = some (.slice A s.f0.length c) := (blk_cell h0 0).trans rfl
  have k3 : w''.cell? ⟨w.heap.size + 1, 0, none⟩ = some (.int .i64 e) := (blk_cell h1 0).trans rfl
  have hE : GetSE t w (.returned (.tuple #[.agg #[.slice A s.f0.length c], .int .i64 e])) w'' := by
    unfold GetSE
    rw [h]
    exact ⟨A, c, rfl, hr, hG⟩
  simp [Leaves, settle, results, Tryz.results59, go_sem, h2, h3, k0, k3]
  exact hE
theorem gets_ret0 {t : ByteArray} {w W : World} {e : Int} (h : getSR t = (e, ⟨[]⟩)) (hG : Below w.heap.size w W)
    (h0 : W.heap[w.heap.size]? = some (.cells #[.slice none 0 0] 47 (0, 0))) (h1 : W.heap[w.heap.size + 1]? = some (.cells #[.int .i64 e] 26 (0, 0)))
    (tm : Array Value) (h2 : tm[2]? = some (.pointer (some ⟨w.heap.size, 0, none⟩))) (h3 : tm[3]? = some (.pointer (some ⟨w.heap.size + 1, 0, none⟩))) :
    bodyPostD Tryz.prog Tryz.f59 (GetSE t w) Exit.ret { tmps := tm, defers := [] } W := by
  have k0 : W.cell? ⟨w.heap.size, 0, none⟩ = some (.slice none 0 0) := (blk_cell h0 0).trans rfl
  have k3 : W.cell? ⟨w.heap.size + 1, 0, none⟩ = some (.int .i64 e) := (blk_cell h1 0).trans rfl
  have hE := getSE_zero h hG
  simp [bodyPostD, Leaves, settle, results, Tryz.results59, go_sem, h2, h3, k0, k3]
  exact hE
theorem getSR_bad {t : ByteArray} (hs : t.size ≤ 65536) (h : getSV t = none) : getSR t = (4, ⟨[]⟩) := by unfold getSR; rw [if_neg (by omega), h]
set_option maxHeartbeats 8000000 in
set_option maxRecDepth 100000 in
theorem gets_calls (t : ByteArray) (w : World) : Calls Tryz.prog 59 #[.string t] w (GetSE t w) := by
  have hmf := run_mkfun3
  have HG := Aside0.mk (GS.start w)
  have HSZ1 := Aside0.mk (show ((w.alloc (.cells #[.slice none 0 0] 47)).alloc (.cells #[.int .i64 0] 26)).heap.size = w.heap.size + 2 from by simp)
  go_enter_defers Tryz.func59, Tryz.ntmps59
  go_upto_region 1 with (fail)
  generalize ((w.alloc (.cells #[.slice none 0 0] 47)).alloc (.cells #[.int .i64 0] 26)) = W1 at *
  obtain ⟨⟨c0, f0⟩, c1, f1⟩ := (HG.out).cells
  cases q1 : decide ((t.size : Int) > 65536) with
  | true =>
    have HR := Aside0.mk (show getSR t = (3, ⟨[]⟩) by unfold getSR; rw [if_pos (by have := of_decide_eq_true q1; omega)])
    have HQ := Aside0.mk ((HG.out).set0 (.slice none 0 0))
    go_wp2
    exact gets_ret0 HR.out ((HQ.out).hb.setCell (p := ⟨w.heap.size + 1, 0, none⟩) (Nat.le_succ _) _) (blk_far (HQ.out).ha (by show w.heap.size ≠ w.heap.size + 1; omega) _) (blk_set (HQ.out).he 0 _) _ rfl rfl
  | false =>
  have HSZ := Aside0.mk (show t.size ≤ 65536 by have := of_decide_eq_false q1; omega)
  clear c0 f0 c1 f1
  go_upto_region 5 with (fail)
  have HG2 := Aside0.mk ((HG.out).below (below_alloc (Below.refl W1.heap.size W1) (.cells #[.string t, .int .i64 0] 142)))
  have HRD := Aside0.mk (show RD W1.heap.size t t.data.toList (W1.alloc (.cells #[.string t, .int .i64 0] 142)) from by
    have e : t.size - t.data.toList.length = 0 := by rw [← Lib.size_eq]; omega
    refine ⟨?_, ?_⟩
    · rw [e]; exact blk_new W1 _
    · rw [e]; rfl)
  have HBB := Aside0.mk (show w.heap.size + 2 ≤ W1.heap.size from by have := HSZ1.out; omega)
  have HLT := Aside0.mk (show W1.heap.size < (W1.alloc (.cells #[.string t, .int .i64 0] 142)).heap.size from by simp)
  clear HG HSZ1
  generalize (W1.alloc (.cells #[.string t, .int .i64 0] 142)) = W2 at *
  generalize W1.heap.size = b at *
  have HS := Aside0.mk (sort_calls b t (by have := HSZ.out; omega) (t.data.toList.length + 1) t.data.toList W2 (Nat.lt_succ_self _) HRD.out)
  obtain ⟨⟨c0, f0⟩, c1, f1⟩ := (HG2.out).cells
  clear c0 f0 c1 f1
  go_wp2_with fail
  refine (HS.out).mono ?_
  rintro E w3 ⟨hk, hE⟩
  have HG3 := Aside0.mk ((HG2.out).call hk HBB.out)
  rcases hE with ⟨hn, rfl⟩ | ⟨s, r, v, hv, rfl, hR, hr⟩
  · have HN := Aside0.mk (show getSV t = none by unfold getSV; rw [hn]; rfl)
    clear hn hk HG2
    unfold pbadS
    go_wp2
    exact gets_panic (getSR_bad HSZ.out HN.out) HG3.out _ rfl rfl
  · obtain ⟨A, c, rfl⟩ := Kd.R_slice hR
    have HV := Aside0.mk hv
    have HRR := Aside0.mk (Kd.R_lower (base' := w.heap.size) (Kd.R_mono (ok' := fun k => w.heap.size + 2 ≤ k) hR (fun k hk2 => by have := HBB.out; have := HLT.out; omega)) (by have := HBB.out; have := HLT.out; omega))
    have HRD3 := Aside0.mk hr
    obtain ⟨⟨c0, f0⟩, c1, f1⟩ := (HG3.out).cells
    have HG4 := Aside0.mk ((HG3.out).set0 (.slice A s.f0.length c))
    have HR4 := Aside0.mk (Kd.R_far (p := ⟨w.heap.size, 0, none⟩) HRR.out (fun k hk2 => by show k ≠ w.heap.size; omega) (.slice A s.f0.length c))
    have HB4 := Aside0.mk (blk_far (HRD3.out).blk (p := ⟨w.heap.size, 0, none⟩) (by show b ≠ w.heap.size; have := HBB.out; omega) (.slice A s.f0.length c))
    have HLE := Aside0.mk (HRD3.out).le
    clear hk hv hR hr HG2 HRR HG3 HS
    go_upto_region 6 with (fail)
    generalize (w3.setCell ⟨w.heap.size, 0, none⟩ (.slice A s.f0.length c)) = w4 at *
    clear c0 f0 c1 f1
    obtain ⟨⟨c0, f0⟩, c1, f1⟩ := (HG4.out).cells
    have m0 : w4.cell? ⟨b, 0, none⟩ = some (.string t) := (blk_cell HB4.out 0).trans rfl
    have m1 : w4.cell? ⟨b, 1, none⟩ = some (.int .i64 ((t.size - r.length : Nat) : Int)) := (blk_cell HB4.out 1).trans rfl
    obtain ⟨p, hp⟩ : ∃ p : Nat, t.size - r.length = p := ⟨_, rfl⟩
    rw [hp] at m1
    have HP := Aside0.mk hp
    clear hp
    by_cases h9 : p = t.size
    · have hr0 : r = [] := by have := HP.out; have := HLE.out; exact List.eq_nil_of_length_eq_zero (by omega)
      have h99 : (p : Int) = (t.size : Int) := by rw [h9]
      have HGV := Aside0.mk (show getSV t = some s by unfold getSV; rw [HV.out, Option.bind_some, hr0, if_pos rfl])
      have HCK := Aside0.mk (scheck_calls s A c w4 (Kd.R_reads' HR4.out).2.2 (Kd.R_reads' HR4.out).2.1)
      clear hr0
      go_wp2_with fail
      refine (HCK.out).mono ?_
      rintro E w5 ⟨rfl, hb⟩
      have HG5 := Aside0.mk ((HG4.out).below hb)
      have HR5 := Aside0.mk (Kd.R_below HR4.out hb)
      clear hb HG4 HR4 HCK m0 m1 c0 f0 c1 f1
      obtain ⟨⟨c0, f0⟩, c1, f1⟩ := (HG5.out).cells
      by_cases hz : schkV s = 0
      · have HRS := Aside0.mk (show getSR t = (0, s) by unfold getSR; rw [if_neg (by have := HSZ.out; omega), HGV.out]; simp only; rw [if_pos hz])
        rw [hz]
        have HQ := Aside0.mk ((HG5.out).set0 (.slice A s.f0.length c))
        have HR6 := Aside0.mk (Kd.R_far (p := ⟨w.heap.size + 1, 0, none⟩) (Kd.R_far (p := ⟨w.heap.size, 0, none⟩) HR5.out (fun k hk2 => by show k ≠ w.heap.size; omega) (.slice A s.f0.length c)) (fun k hk2 => by show k ≠ w.heap.size + 1; omega) (.int .i64 0))
        clear hz
        go_wp2
        exact gets_done HRS.out ((HQ.out).hb.setCell (p := ⟨w.heap.size + 1, 0, none⟩) (Nat.le_succ _) _) (blk_far (HQ.out).ha (by show w.heap.size ≠ w.heap.size + 1; omega) _) (blk_set (HQ.out).he 0 _) (Kd.R_mono HR6.out (fun k hk2 => by omega)) _ rfl rfl
      · have h6 : schkV s = 6 := by unfold schkV at hz ⊢; split at hz <;> simp_all
        have HRS := Aside0.mk (show getSR t = (6, ⟨[]⟩) by unfold getSR; rw [if_neg (by have := HSZ.out; omega), HGV.out]; simp only; rw [if_neg hz])
        rw [h6]
        have HQ := Aside0.mk ((HG5.out).set0 (.slice none 0 0))
        clear hz h6
        go_wp2
        exact gets_done HRS.out ((HQ.out).hb.setCell (p := ⟨w.heap.size + 1, 0, none⟩) (Nat.le_succ _) _) (blk_far (HQ.out).ha (by show w.heap.size ≠ w.heap.size + 1; omega) _) (blk_set (HQ.out).he 0 _) (Kd.R_nil _ _ _ _ _) _ rfl rfl
    · have hr0 : ¬ r = [] := by intro e; have := HP.out; rw [e] at this; simp at this; omega
      have h99 : ¬ (p : Int) = (t.size : Int) := by omega
      have HRS := Aside0.mk (getSR_bad HSZ.out (show getSV t = none by unfold getSV; rw [HV.out, Option.bind_some, if_neg hr0]))
      have HQ := Aside0.mk ((HG4.out).set0 (.slice none 0 0))
      clear hr0
      go_wp2
      exact gets_done HRS.out ((HQ.out).hb.setCell (p := ⟨w.heap.size + 1, 0, none⟩) (Nat.le_succ _) _) (blk_far (HQ.out).ha (by show w.heap.size ≠ w.heap.size + 1; omega) _) (blk_set (HQ.out).he 0 _) (Kd.R_nil _ _ _ _ _) _ rfl rfl
end Go.Proofs.YthflpbgloeimfaaGreatDoor.H
namespace Go.Proofs.YthflpbgloeimfaaGreatDoor.H
open Go.RowKit Go.Proofs.YthflpbgloeimfaaGreatDoorW.PrintWords Go.Proofs.YthflpbgloeimfaaGreatDoorW.PrintLast Go.Proofs.YthflpbgloeimfaaGreatDoorW.PrintMore
open Go.Proofs.YthflpbgloeimfaaGreatDoor.Q (S47 k47 rd_T47 z47 at_T47 S50 k50 rd_T50 z50 at_T50 S52 k52 rd_T52 at_T52 z52 S71 k71 rd_T71 at_T71)
set_option linter.unusedVariables false
set_option linter.unusedSimpArgs false
theorem gidle_calls (p q : Addr) (w : World) :
    CallsD Tryz.prog 54 #[.pointer (some p), .pointer (some q)] .returning w fun e u' w' => e = .returned (.tuple #[]) ∧ u' = .returning ∧ w' = w := by
  refine callsD_of_wpS Tryz.func54 rfl fun c₀ cs hu => ?_
  apply wpS_seq
  apply wpS_region
  simp [wpOpsS, go_sem, recoverD, hu, Tryz.ntmps54, Exit.thenS]
  apply wpS_seq
  apply wpS_region
  simp [wpOpsS, go_sem, Exit.thenS]
  refine wpS_cond (t := false) (by simp [Act.eval, Array.replicate]) ?_
  simp only [Bool.false_eq_true, if_false]
  refine wpS_of_wp (wp_skip ?_)
  cases c₀
  simp_all [bodyPostS, results, Tryz.results54]
set_option maxHeartbeats 4000000 in
set_option maxRecDepth 100000 in
theorem gbad_calls (a : Nat) (x y e : Value) (w : World) (h0 : w.heap[a]? = some (.cells #[x, y] 25 (0, 0))) (h1 : w.heap[a + 1]? = some (.cells #[e] 26 (0, 0))) :
    CallsD Tryz.prog 54 #[.pointer (some ⟨a, 0, none⟩), .pointer (some ⟨a + 1, 0, none⟩)] (.panicking [{ v := .iface 85 (.agg #[]), recovered := false }]) w fun e u' w' =>
      e = .returned (.tuple #[]) ∧ u' = .panicking [{ v := .iface 85 (.agg #[]), recovered := true }] ∧ w'.heap[a]? = some (.cells #[.slice none 0 0, .slice none 0 0] 25 (0, 0)) ∧ w'.heap[a + 1]? = some (.cells #[.int .i64 4] 26 (0, 0)) ∧ Below a w w' := by
  refine callsD_of_wpS Tryz.func54 rfl fun c₀ cs hu => ?_
  apply wpS_seq
  apply wpS_region
  simp [wpOpsS, go_sem, recoverD, hu, Tryz.ntmps54, Exit.thenS]
  refine wpS_of_wp ?_
  rw [show (#[Value.pointer (some ⟨a, 0, none⟩), Value.pointer (some ⟨a + 1, 0, none⟩)] ++ ((Array.replicate 15 undef).setIfInBounds 3 (Value.iface 85 (Value.agg #[]))).setIfInBounds 0 (Value.iface 85 (Value.agg #[]))) = #[Value.pointer (some ⟨a, 0, none⟩), Value.pointer (some ⟨a + 1, 0, none⟩), Value.iface 85 (Value.agg #[]), undef, undef, Value.iface 85 (Value.agg #[]), undef, undef, undef, undef, undef, undef, undef, undef, undef, undef, undef] from rfl]
  have hta : ∀ W : World, (Instr.typeAssert (Value.iface 85 (Value.agg #[])) 20 85 true).run Tryz.prog W = .ok (.tuple #[.agg #[], .bool true]) W := fun W => by kernel_rfl
  have HB := Aside0.mk (below_alloc (Below.refl w.heap.size w) (.cells #[] 85))
  have HQ0 := Aside0.mk hu
  have ha : a < w.heap.size := (Array.getElem?_eq_some_iff.1 h0).1
  generalize hQ : bodyPostS Tryz.prog Tryz.f54 c₀ cs _ = QQ
  have HQ := Aside0.mk hQ
  clear hQ
  go_upto_region 5 with (fail)
  have H0 := Aside0.mk (blk_below h0 HB.out)
  have H1 := Aside0.mk (blk_below h1 HB.out)
  clear h0 h1
  generalize w.alloc (.cells #[] 85) = W2 at *
  have c0 : W2.cell? ⟨a, 0, none⟩ = some x := (blk_cell H0.out 0).trans rfl
  have c1 : W2.cell? ⟨a, 1, none⟩ = some y := (blk_cell H0.out 1).trans rfl
  have c3 : W2.cell? ⟨a + 1, 0, none⟩ = some e := (blk_cell H1.out 0).trans rfl
  have f0 : W2.frozen? ⟨a, 0, none⟩ = false := blk_frozen H0.out 0
  have f1 : W2.frozen? ⟨a, 1, none⟩ = false := blk_frozen H0.out 1
  have f3 : W2.frozen? ⟨a + 1, 0, none⟩ = false := blk_frozen H1.out 0
  go_wp2
  rw [← HQ.out]
  have hB := Below.mono HB.out (show a ≤ w.heap.size from Nat.le_of_lt ha)
  clear c0 c1 c3 f0 f1 f3
  refine ⟨rfl, _, rfl, _, results_none rfl _ _ _, rfl, rfl, ?_, ?_, ?_⟩
  · exact blk_far (blk_set (blk_set H0.out 0 _) 1 _) (by show a ≠ a + 1; omega) _
  · exact blk_set (blk_far (blk_far H1.out (by show a + 1 ≠ a; omega) _) (by show a + 1 ≠ a; omega) _) 0 _
  · exact ((hB.setCell (p := ⟨a, 0, none⟩) (Nat.le_refl a) _).setCell (p := ⟨a, 1, none⟩) (Nat.le_refl a) _).setCell (p := ⟨a + 1, 0, none⟩) (Nat.le_succ a) _
structure GSt where
  sy : List S71
  fs : List S52
  bo : List ByteArray
  large : Bool
def nmE (l : List ByteArray) : Ents := (l.zipIdx).foldl (fun es p => if mget p.1 es = none then es ++ [(p.1, (p.2 : Int))] else es) []
def pSym : List UInt8 := [115, 121, 109, 98, 111, 108, 32]
def pFun : List UInt8 := [102, 117, 110, 32]
def lnStep (g : GSt) (s : ByteArray) : Option GSt :=
  let l := s.data.toList
  if Lib.hasPrefix l pSym = true ∧ g.fs.length = 0 then (symR (Lib.trimPrefix l pSym)).map fun y => { g with sy := g.sy ++ [y] }
  else
    let a := Lib.cut (Lib.trimPrefix l pFun) [32, 58, 32]
    let b := Lib.cut a.2.1 [32, 61, 32]
    if Lib.hasPrefix l pFun = true ∧ a.2.2 = true ∧ b.2.2 = true ∧ nameB ⟨a.1.toArray⟩ = true then
      (if (getSR ⟨b.1.toArray⟩).1 = 4 then none
       else some { sy := g.sy, fs := g.fs ++ [⟨⟨a.1.toArray⟩, (getSR ⟨b.1.toArray⟩).2, ⟨0, 0, []⟩⟩], bo := g.bo ++ [⟨b.2.1.toArray⟩], large := g.large || decide ((getSR ⟨b.1.toArray⟩).1 ≠ 0) })
    else none
def lnAll : GSt → List ByteArray → Option GSt
  | g, [] => some g
  | g, s :: r => (lnStep g s).bind fun g2 => lnAll g2 r
end Go.Proofs.YthflpbgloeimfaaGreatDoor.H
namespace Go.Proofs.YthflpbgloeimfaaGreatDoor.H
open Go.RowKit Go.Proofs.YthflpbgloeimfaaGreatDoorW.PrintWords Go.Proofs.YthflpbgloeimfaaGreatDoorW.PrintLast Go.Proofs.YthflpbgloeimfaaGreatDoorW.PrintMore
open Go.Proofs.YthflpbgloeimfaaGreatDoor.Q (S47 k47 rd_T47 z47 at_T47 S50 k50 rd_T50 z50 at_T50 S52 k52 rd_T52 at_T52 z52 S71 k71 rd_T71 at_T71)
set_option linter.unusedVariables false
set_option linter.unusedSimpArgs false
theorem nmE_snoc (l : List ByteArray) (x : ByteArray) : nmE (l ++ [x]) = (if mget x (nmE l) = none then nmE l ++ [(x, (l.length : Int))] else nmE l) := by
  unfold nmE
  rw [List.zipIdx_append, List.foldl_append]
  simp
def chunks (s : ByteArray) (c : UInt8) : List ByteArray := Lib.splitB ⟨#[c]⟩ 0 (Lib.countB s ⟨#[c]⟩) s
def boAll (e1 e2 : Ents) : List S52 → List ByteArray → Option (List S52)
  | f :: r, b :: t => (tmR e1 e2 b.data.toList).bind fun p => if p.2 = [] then (boAll e1 e2 r t).map (⟨f.f0, f.f1, p.1⟩ :: ·) else none
  | _, _ => some []
def getV3 (t : ByteArray) : Option (List S71 × List S52 × Bool) :=
  let L := chunks t 10
  if L.getD (L.length - 1) ByteArray.empty = ByteArray.empty then
    (lnAll ⟨[], [], [], false⟩ (L.take (L.length - 1))).bind fun g => (boAll (nmE (g.sy.map (·.f0))) (nmE (g.fs.map (·.f0))) g.fs g.bo).map fun fs => (g.sy, fs, g.large)
  else none
def getR3 (t : ByteArray) : Int × List S71 × List S52 :=
  if 65536 < t.size then (3, [], []) else match getV3 t with
    | none => (4, [], [])
    | some (sy, fs, large) => if large = true ∨ schV sy fs ≠ 0 then (7, [], []) else (0, sy, fs)
end Go.Proofs.YthflpbgloeimfaaGreatDoor.H
namespace Go.Proofs.YthflpbgloeimfaaGreatDoor.H
open Go.RowKit Go.Proofs.YthflpbgloeimfaaGreatDoorW.PrintWords Go.Proofs.YthflpbgloeimfaaGreatDoorW.PrintLast Go.Proofs.YthflpbgloeimfaaGreatDoorW.PrintMore
open Go.Proofs.YthflpbgloeimfaaGreatDoor.Q (S47 k47 rd_T47 z47 at_T47 S50 k50 rd_T50 z50 at_T50 S52 k52 rd_T52 at_T52 z52 S71 k71 rd_T71 at_T71)
set_option linter.unusedVariables false
set_option linter.unusedSimpArgs false
def GetE3 (t : ByteArray) (w : World) (E : Ending) (w' : World) : Prop :=
  ∃ A1 c1 A2 c2, E = .returned (.tuple #[.agg #[.slice A1 (getR3 t).2.1.length c1, .slice A2 (getR3 t).2.2.length c2], .int .i64 (getR3 t).1]) ∧ Kd.C k71 w' A1 (getR3 t).2.1.length (getR3 t).2.1 ∧ (getR3 t).2.1.length ≤ c1 ∧ Kd.C k52 w' A2 (getR3 t).2.2.length (getR3 t).2.2 ∧ (getR3 t).2.2.length ≤ c2 ∧ Below w.heap.size w w'
structure GH3 (w W : World) (x y : Value) : Prop where
  hb : Below w.heap.size w W
  ha : W.heap[w.heap.size]? = some (.cells #[x, y] 25 (0, 0))
  he : W.heap[w.heap.size + 1]? = some (.cells #[.int .i64 0] 26 (0, 0))
theorem GH3.start (w : World) : GH3 w ((w.alloc (.cells #[.slice none 0 0, .slice none 0 0] 25)).alloc (.cells #[.int .i64 0] 26)) (.slice none 0 0) (.slice none 0 0) :=
  ⟨below_alloc (below_alloc (Below.refl _ _) _) _, blk_alloc (blk_new w _) _, blk_at2 w _ _⟩
theorem GH3.below {w W W1 : World} {x y : Value} (h : GH3 w W x y) (hb : Below W.heap.size W W1) : GH3 w W1 x y := ⟨below_then h.hb h.hb.size hb, blk_below h.ha hb, blk_below h.he hb⟩
theorem GH3.grown {w W W1 : World} {x y : Value} (h : GH3 w W x y) {row : Option Nat} (hb : Below w.heap.size w W1) (hg : W.grownBy W1 row) (hne : ∀ k, row = some k → w.heap.size + 2 ≤ k) : GH3 w W1 x y :=
  ⟨hb, blk_grown h.ha hg (fun e => by have := hne _ e.symm; omega), blk_grown h.he hg (fun e => by have := hne _ e.symm; omega)⟩
theorem GH3.call {w W W1 : World} {x y : Value} {b : Nat} (h : GH3 w W x y) (hk : KR b W W1) (hb : w.heap.size + 2 ≤ b) : GH3 w W1 x y := ⟨Below.trans h.hb (Below.mono hk.lo (by omega)), hk.blk (by omega) h.ha, hk.blk (by omega) h.he⟩
theorem GH3.cells {w W : World} {x y : Value} (h : GH3 w W x y) : W.cell? ⟨w.heap.size, 0, none⟩ = some x ∧ W.cell? ⟨w.heap.size, 1, none⟩ = some y ∧ W.cell? ⟨w.heap.size + 1, 0, none⟩ = some (.int .i64 0) :=
  ⟨(blk_cell h.ha 0).trans rfl, (blk_cell h.ha 1).trans rfl, (blk_cell h.he 0).trans rfl⟩
theorem GH3.frozen {w W : World} {x y : Value} (h : GH3 w W x y) : W.frozen? ⟨w.heap.size, 0, none⟩ = false ∧ W.frozen? ⟨w.heap.size, 1, none⟩ = false ∧ W.frozen? ⟨w.heap.size + 1, 0, none⟩ = false :=
  ⟨blk_frozen h.ha 0, blk_frozen h.ha 1, blk_frozen h.he 0⟩
theorem GH3.set0 {w W : World} {x y : Value} (h : GH3 w W x y) (u : Value) : GH3 w (W.setCell ⟨w.heap.size, 0, none⟩ u) u y := ⟨h.hb.setCell (p := ⟨w.heap.size, 0, none⟩) (Nat.le_refl _) _, blk_set h.ha 0 u, blk_far h.he (by show w.heap.size + 1 ≠ w.heap.size; omega) _⟩
theorem GH3.set1 {w W : World} {x y : Value} (h : GH3 w W x y) (u : Value) : GH3 w (W.setCell ⟨w.heap.size, 1, none⟩ u) x u := ⟨h.hb.setCell (p := ⟨w.heap.size, 1, none⟩) (Nat.le_refl _) _, blk_set h.ha 1 u, blk_far h.he (by show w.heap.size + 1 ≠ w.heap.size; omega) _⟩
theorem getE3_zero {t : ByteArray} {w W : World} {e : Int} (h : getR3 t = (e, [], [])) (hb : Below w.heap.size w W) : GetE3 t w (.returned (.tuple #[.agg #[.slice none 0 0, .slice none 0 0], .int .i64 e])) W := by
  unfold GetE3
  rw [h]
  exact ⟨none, 0, none, 0, rfl, ⟨rfl, by simp, fun h => absurd h (by simp)⟩, Nat.le_refl _, ⟨rfl, by simp, fun h => absurd h (by simp)⟩, Nat.le_refl _, hb⟩
theorem get3_panic {t : ByteArray} {w W : World} {x y : Value} (h : getR3 t = (4, [], [])) (hG : GH3 w W x y) (tm : Array Value) (h2 : tm[2]? = some (.pointer (some ⟨w.heap.size, 0, none⟩))) (h3 : tm[3]? = some (.pointer (some ⟨w.heap.size + 1, 0, none⟩))) :
    bodyPostD Tryz.prog Tryz.f19 (GetE3 t w) (Exit.panic [{ v := .iface 85 (.agg #[]), recovered := false }]) { tmps := tm, defers := [{ target := .fn (.func 54) #[.pointer (some ⟨w.heap.size, 0, none⟩), .pointer (some ⟨w.heap.size + 1, 0, none⟩)], args := #[] }] } W := by
  refine leaves_cons (f := 54) (args := #[.pointer (some ⟨w.heap.size, 0, none⟩), .pointer (some ⟨w.heap.size + 1, 0, none⟩)]) (by simp) (by simp [go_sem]) ?_
  refine (gbad_calls w.heap.size x y _ W hG.ha hG.he).mono ?_
  rintro e u' w'' ⟨rfl, rfl, h0, h1, hb⟩
  have k0 : w''.cell? ⟨w.heap.size, 0, none⟩ = some (.slice none 0 0) := (blk_cell h0 0).trans rfl
  have k1 : w''.cell? ⟨w.heap.size, 1, none⟩ = some (.slice none 0 0) := (blk_cell h0 1).trans rfl
  have k3 : w''.cell? ⟨w.heap.size + 1, 0, none⟩ = some (.int .i64 4) := (blk_cell h1 0).trans rfl
  have hE := getE3_zero (w := w) (W := w'') h (Below.trans hG.hb hb)
  simp [Leaves, settle, results, Tryz.results19, go_sem, h2, h3, k0, k1, k3]
  exact hE
theorem get3_done {t : ByteArray} {w W : World} {A1 A2 : Option Addr} {c1 c2 : Nat} {sy : List S71} {fs : List S52} {e : Int} (h : getR3 t = (e, sy, fs)) (hG : Below w.heap.size w W)
    (h0 : W.heap[w.heap.size]? = some (.cells #[.slice A1 sy.length c1, .slice A2 fs.length c2] 25 (0, 0))) (h1 : W.heap[w.heap.size + 1]? = some (.cells #[.int .i64 e] 26 (0, 0)))
    (hr : Kd.C k71 W A1 sy.length sy) (hrc : sy.length ≤ c1) (hM : Kd.C k52 W A2 fs.length fs) (hMc : fs.length ≤ c2)
    (tm : Array Value) (h2 : tm[2]? = some (.pointer (some ⟨w.heap.size, 0, none⟩))) (h3 : tm[3]? = some (.pointer (some ⟨w.heap.size + 1, 0, none⟩))) :
    bodyPostD Tryz.prog Tryz.f19 (GetE3 t w) Exit.ret { tmps := tm, defers := [{ target := .fn (.func 54) #[.pointer (some ⟨w.heap.size, 0, none⟩), .pointer (some ⟨w.heap.size + 1, 0, none⟩)], args := #[] }] } W := by
  refine leaves_cons (f := 54) (args := #[.pointer (some ⟨w.heap.size, 0, none⟩), .pointer (some ⟨w.heap.size + 1, 0, none⟩)]) (by simp) (by simp [go_sem]) ?_
  refine (gidle_calls _ _ W).mono ?_
  rintro e' u' w'' ⟨rfl, rfl, rfl⟩
  have k0 : w''.cell? ⟨w.heap.size, 0, none⟩ = some (.slice A1 sy.length c1) := (blk_cell h0 0).trans rfl
  have k1 : w''.cell? ⟨w.heap.size, 1, none⟩ = some (.slice A2 fs.length c2) := (blk_cell h0 1).trans rfl
  have k3 : w''.cell? ⟨w.heap.size + 1, 0, none⟩ = some (.int .i64 e) := (blk_cell h1 0).trans rfl
  have hE : GetE3 t w (.returned (.tuple #[.agg #[.slice A1 sy.length c1, .slice A2 fs.length c2], .int .i64 e])) w'' := by
    unfold GetE3
    rw [h]
    exact ⟨A1, _, A2, _, rfl, hr, hrc, hM, hMc, hG⟩
  simp [Leaves, settle, results, Tryz.results19, go_sem, h2, h3, k0, k1, k3]
  exact hE
theorem get3_ret0 {t : ByteArray} {w W : World} {e : Int} (h : getR3 t = (e, [], [])) (hG : Below w.heap.size w W)
    (h0 : W.heap[w.heap.size]? = some (.cells #[.slice none 0 0, .slice none 0 0] 25 (0, 0))) (h1 : W.heap[w.heap.size + 1]? = some (.cells #[.int .i64 e] 26 (0, 0)))
    (tm : Array Value) (h2 : tm[2]? = some (.pointer (some ⟨w.heap.size, 0, none⟩))) (h3 : tm[3]? = some (.pointer (some ⟨w.heap.size + 1, 0, none⟩))) :
    bodyPostD Tryz.prog Tryz.f19 (GetE3 t w) Exit.ret { tmps := tm, defers := [] } W := by
  have k0 : W.cell? ⟨w.heap.size, 0, none⟩ = some (.slice none 0 0) := (blk_cell h0 0).trans rfl
  have k1 : W.cell? ⟨w.heap.size, 1, none⟩ = some (.slice none 0 0) := (blk_cell h0 1).trans rfl
  have k3 : W.cell? ⟨w.heap.size + 1, 0, none⟩ = some (.int .i64 e) := (blk_cell h1 0).trans rfl
  have hE := getE3_zero h hG
  simp [bodyPostD, Leaves, settle, results, Tryz.results19, go_sem, h2, h3, k0, k1, k3]
  exact hE
theorem getR3_bad {t : ByteArray} (hs : t.size ≤ 65536) (h : getV3 t = none) : getR3 t = (4, [], []) := by unfold getR3; rw [if_neg (by omega), h]
end Go.Proofs.YthflpbgloeimfaaGreatDoor.H
namespace Go.Proofs.YthflpbgloeimfaaGreatDoor.H
open Go.RowKit Go.Proofs.YthflpbgloeimfaaGreatDoorW.PrintWords Go.Proofs.YthflpbgloeimfaaGreatDoorW.PrintLast Go.Proofs.YthflpbgloeimfaaGreatDoorW.PrintMore
open Go.Proofs.YthflpbgloeimfaaGreatDoor.Q (S47 k47 rd_T47 z47 at_T47 S50 k50 rd_T50 z50 at_T50 S52 k52 rd_T52 at_T52 z52 S71 k71 rd_T71 at_T71)
set_option linter.unusedVariables false
set_option linter.unusedSimpArgs false
theorem chunks_len (s : ByteArray) (c : UInt8) : (Lib.splitB ⟨#[c]⟩ 0 (Lib.countB s ⟨#[c]⟩) s).length = Lib.countB s ⟨#[c]⟩ + 1 := Lib.splitB_all _ (show 1 ≤ (ByteArray.mk #[c]).size from Nat.le_refl 1) _ _ _ rfl
theorem chunks_short (s : ByteArray) (c : UInt8) : (chunks s c).length ≤ s.size + 1 := by
  have h : (chunks s c).length = Lib.countB s ⟨#[c]⟩ + 1 := chunks_len s c
  have := Lib.countB_le ⟨#[c]⟩ (Nat.le_refl 1) s.size s (Nat.le_refl _)
  omega
theorem chunks_pos (s : ByteArray) (c : UInt8) : 1 ≤ (chunks s c).length := by
  have h : (chunks s c).length = Lib.countB s ⟨#[c]⟩ + 1 := chunks_len s c
  omega
theorem split_calls (s : ByteArray) (c : UInt8) (w : World) (hs : s.size ≤ 70000) (hm : MX w) :
    Calls Tryz.prog 55 #[.string s, .string ⟨#[c]⟩] w fun E w' => E = .returned (.slice (some ⟨w.heap.size, 0, none⟩) (chunks s c).length (chunks s c).length) ∧ w' = w.alloc (.cells ((chunks s c).map Value.string).toArray 9) := by
  obtain ⟨m, hm⟩ := hm
  have h := Tryz.strings_Split s ⟨#[c]⟩ m w (by omega) hm (Nat.le_refl 1)
  rw [← chunks_len s c] at h
  exact h
theorem strs_cell {W : World} {b : Nat} {L : List ByteArray} {x : Nat × Nat} (h : W.heap[b]? = some (.cells (L.map Value.string).toArray 9 x)) {i : Nat} (hi : i < L.length) : W.cell? ⟨b, i, none⟩ = some (.string (L.getD i ByteArray.empty)) := by
  rw [Lib.cell_of_heap h]
  simp [List.getD_eq_getElem?_getD, hi]
theorem splitB_size (sep : ByteArray) : ∀ (k : Nat) (s : ByteArray), ∀ x ∈ Lib.splitB sep 0 k s, x.size ≤ s.size
  | 0, s, x, hx => by rw [Lib.splitB_zero, List.mem_singleton] at hx; rw [hx]; exact Nat.le_refl _
  | k + 1, s, x, hx => by
    unfold Lib.splitB at hx
    split at hx
    · rw [List.mem_singleton] at hx; rw [hx]; exact Nat.le_refl _
    · rcases List.mem_cons.1 hx with rfl | hx
      · rw [ByteArray.size_extract]; omega
      · have := splitB_size sep k _ x hx
        rw [ByteArray.size_extract] at this; omega
theorem chunk_size (s : ByteArray) (c : UInt8) (i : Nat) : ((chunks s c).getD i ByteArray.empty).size ≤ s.size := by
  by_cases hi : i < (chunks s c).length
  · rw [List.getD_eq_getElem?_getD, List.getElem?_eq_getElem hi]
    exact splitB_size _ _ _ _ (List.getElem_mem hi)
  · rw [List.getD_eq_getElem?_getD, List.getElem?_eq_none (by omega)]
    exact Nat.zero_le _
end Go.Proofs.YthflpbgloeimfaaGreatDoor.H
namespace Go.Proofs.YthflpbgloeimfaaGreatDoor.H
open Go.RowKit Go.Proofs.YthflpbgloeimfaaGreatDoorW.PrintWords Go.Proofs.YthflpbgloeimfaaGreatDoorW.PrintLast Go.Proofs.YthflpbgloeimfaaGreatDoorW.PrintMore
open Go.Proofs.YthflpbgloeimfaaGreatDoor.Q (S47 k47 rd_T47 z47 at_T47 S50 k50 rd_T50 z50 at_T50 S52 k52 rd_T52 at_T52 z52 S71 k71 rd_T71 at_T71)
set_option linter.unusedVariables false
structure FL (w wi : World) (L : List ByteArray) (bl B1 B2 b : Nat) (tx : List UInt8) (sy : List S71) (fs : List S52) (bo : List ByteArray) (e1 e2 : Ents) (A1 : Option Addr) (c1 : Nat) (A2 : Option Addr) (c2 : Nat) (A3 : Option Addr) (c3 : Nat) : Prop where
  g : GH3 w wi (.slice A1 sy.length c1) (.slice A2 fs.length c2)
  l : wi.heap[bl]? = some (.cells (L.map Value.string).toArray 9 (0, 0))
  rt : RT b tx (.map (some B1)) (.map (some B2)) wi
  m1 : MapIs wi B1 Value.string ki sdom e1
  m2 : MapIs wi B2 Value.string ki sdom e2
  r1 : Kd.R k71 71 wi w.heap.size (fun k => b < k) (.slice A1 sy.length c1) sy
  r2 : Kd.R k52 52 wi w.heap.size (fun k => b < k) (.slice A2 fs.length c2) fs
  r3 : Kd.R Kd.string 9 wi w.heap.size (fun k => b < k) (.slice A3 bo.length c3) bo
  n : w.heap.size + 2 ≤ bl ∧ bl < B1 ∧ B1 < B2 ∧ B2 < b
section
variable {w wi w1 : World} {L : List ByteArray} {bl B1 B2 b : Nat} {tx : List UInt8} {sy : List S71} {fs : List S52} {bo : List ByteArray} {e1 e2 : Ents} {A1 A2 A3 : Option Addr} {c1 c2 c3 : Nat}
theorem FL.below (h : FL w wi L bl B1 B2 b tx sy fs bo e1 e2 A1 c1 A2 c2 A3 c3) (hb : Below wi.heap.size wi w1) : FL w w1 L bl B1 B2 b tx sy fs bo e1 e2 A1 c1 A2 c2 A3 c3 :=
  ⟨h.g.below hb, blk_below h.l hb, h.rt.keep hb, h.m1.below hb, h.m2.below hb, Kd.R_below h.r1 hb, Kd.R_below h.r2 hb, Kd.R_below h.r3 hb, h.n⟩
theorem FL.hb (h : FL w wi L bl B1 B2 b tx sy fs bo e1 e2 A1 c1 A2 c2 A3 c3) : Below w.heap.size w wi := h.g.hb
theorem FL.lt (h : FL w wi L bl B1 B2 b tx sy fs bo e1 e2 A1 c1 A2 c2 A3 c3) : b < wi.heap.size := blk_lt h.rt.blk
theorem FL.put1 {e3 : Ents} (h : FL w wi L bl B1 B2 b tx sy fs bo e1 e2 A1 c1 A2 c2 A3 c3) (hm : MapIs w1 B1 Value.string ki sdom e3) (hg : wi.grownBy w1 (some B1)) : FL w w1 L bl B1 B2 b tx sy fs bo e3 e2 A1 c1 A2 c2 A3 c3 := by
  have hn := h.n
  have ne : ∀ k, b < k → some k ≠ some B1 := fun k hk e => by have := Option.some.inj e; omega
  refine ⟨h.g.grown (pw_below_grown h.g.hb _ h.g.hb.size hg (fun k hk => by cases hk; omega)) hg (fun k hk => by cases hk; omega), blk_grown h.l hg (fun e => by have := Option.some.inj e; omega), ⟨blk_grown h.rt.blk hg (fun e => by have := Option.some.inj e; omega)⟩, hm, h.m2.grown hg (fun e => by have := Option.some.inj e; omega), Kd.R_grown h.r1 hg ne, Kd.R_grown h.r2 hg ne, Kd.R_grown h.r3 hg ne, hn⟩
theorem FL.put2 {e3 : Ents} (h : FL w wi L bl B1 B2 b tx sy fs bo e1 e2 A1 c1 A2 c2 A3 c3) (hm : MapIs w1 B2 Value.string ki sdom e3) (hg : wi.grownBy w1 (some B2)) : FL w w1 L bl B1 B2 b tx sy fs bo e1 e3 A1 c1 A2 c2 A3 c3 := by
  have hn := h.n
  have ne : ∀ k, b < k → some k ≠ some B2 := fun k hk e => by have := Option.some.inj e; omega
  refine ⟨h.g.grown (pw_below_grown h.g.hb _ h.g.hb.size hg (fun k hk => by cases hk; omega)) hg (fun k hk => by cases hk; omega), blk_grown h.l hg (fun e => by have := Option.some.inj e; omega), ⟨blk_grown h.rt.blk hg (fun e => by have := Option.some.inj e; omega)⟩, h.m1.grown hg (fun e => by have := Option.some.inj e; omega), hm, Kd.R_grown h.r1 hg ne, Kd.R_grown h.r2 hg ne, Kd.R_grown h.r3 hg ne, hn⟩
theorem FL.push1 {y : S71} {A : Option Addr} {c : Nat} (h : FL w wi L bl B1 B2 b tx sy fs bo e1 e2 A1 c1 A2 c2 A3 c3) (ho : Kd.R k71 71 w1 w.heap.size (fun k => b < k) (.slice A (sy ++ [y]).length c) (sy ++ [y])) (hb : Below w.heap.size w w1) (hg : wi.grownBy w1 (Value.slice A1 sy.length c1).ownBlock) :
    FL w (w1.setCell ⟨w.heap.size, 0, none⟩ (.slice A (sy.length + 1) c)) L bl B1 B2 b tx (sy ++ [y]) fs bo e1 e2 A c A2 c2 A3 c3 := by
  rw [show sy.length + 1 = (sy ++ [y]).length from by simp]
  have hn := h.n
  have hr : ∀ k, (Value.slice A1 sy.length c1).ownBlock = some k → b < k := h.r1.1
  have ne : ∀ k, b < k → k ≠ w.heap.size := fun k hk => by omega
  have nb : ∀ g, g ≤ b → some g ≠ (Value.slice A1 sy.length c1).ownBlock := fun g hg e => by have := hr _ e.symm; omega
  refine ⟨(h.g.grown hb hg (fun k hk => by have := hr k hk; omega)).set0 _, blk_far (blk_grown h.l hg (nb _ (by omega))) (by show bl ≠ w.heap.size; omega) _, (RT.mk (blk_grown h.rt.blk hg (nb _ (Nat.le_refl _)))).far (by omega) _ _, (h.m1.grown hg (nb _ (by omega))).far (by show B1 ≠ w.heap.size; omega) _, (h.m2.grown hg (nb _ (by omega))).far (by show B2 ≠ w.heap.size; omega) _, Kd.R_far ho ne _, Kd.R_far (Kd.R_over h.r2 h.r1 (by decide) hg) ne _, Kd.R_far (Kd.R_over h.r3 h.r1 (by decide) hg) ne _, hn⟩
theorem FL.push2 {y : S52} {A : Option Addr} {c : Nat} (h : FL w wi L bl B1 B2 b tx sy fs bo e1 e2 A1 c1 A2 c2 A3 c3) (ho : Kd.R k52 52 w1 w.heap.size (fun k => b < k) (.slice A (fs ++ [y]).length c) (fs ++ [y])) (hb : Below w.heap.size w w1) (hg : wi.grownBy w1 (Value.slice A2 fs.length c2).ownBlock) :
    FL w (w1.setCell ⟨w.heap.size, 1, none⟩ (.slice A (fs.length + 1) c)) L bl B1 B2 b tx sy (fs ++ [y]) bo e1 e2 A1 c1 A c A3 c3 := by
  rw [show fs.length + 1 = (fs ++ [y]).length from by simp]
  have hn := h.n
  have hr : ∀ k, (Value.slice A2 fs.length c2).ownBlock = some k → b < k := h.r2.1
  have ne : ∀ k, b < k → k ≠ w.heap.size := fun k hk => by omega
  have nb : ∀ g, g ≤ b → some g ≠ (Value.slice A2 fs.length c2).ownBlock := fun g hg e => by have := hr _ e.symm; omega
  refine ⟨(h.g.grown hb hg (fun k hk => by have := hr k hk; omega)).set1 _, blk_far (blk_grown h.l hg (nb _ (by omega))) (by show bl ≠ w.heap.size; omega) _, (RT.mk (blk_grown h.rt.blk hg (nb _ (Nat.le_refl _)))).far (by omega) _ _, (h.m1.grown hg (nb _ (by omega))).far (by show B1 ≠ w.heap.size; omega) _, (h.m2.grown hg (nb _ (by omega))).far (by show B2 ≠ w.heap.size; omega) _, Kd.R_far (Kd.R_over h.r1 h.r2 (by decide) hg) ne _, Kd.R_far ho ne _, Kd.R_far (Kd.R_over h.r3 h.r2 (by decide) hg) ne _, hn⟩
theorem FL.push3 {y : ByteArray} {A : Option Addr} {c : Nat} (h : FL w wi L bl B1 B2 b tx sy fs bo e1 e2 A1 c1 A2 c2 A3 c3) (ho : Kd.R Kd.string 9 w1 w.heap.size (fun k => b < k) (.slice A (bo ++ [y]).length c) (bo ++ [y])) (hb : Below w.heap.size w w1) (hg : wi.grownBy w1 (Value.slice A3 bo.length c3).ownBlock) :
    FL w w1 L bl B1 B2 b tx sy fs (bo ++ [y]) e1 e2 A1 c1 A2 c2 A c := by
  have hn := h.n
  have hr : ∀ k, (Value.slice A3 bo.length c3).ownBlock = some k → b < k := h.r3.1
  have nb : ∀ g, g ≤ b → some g ≠ (Value.slice A3 bo.length c3).ownBlock := fun g hg e => by have := hr _ e.symm; omega
  refine ⟨h.g.grown hb hg (fun k hk => by have := hr k hk; omega), blk_grown h.l hg (nb _ (by omega)), ⟨blk_grown h.rt.blk hg (nb _ (Nat.le_refl _))⟩, h.m1.grown hg (nb _ (by omega)), h.m2.grown hg (nb _ (by omega)), Kd.R_over h.r1 h.r3 (by decide) hg, Kd.R_over h.r2 h.r3 (by decide) hg, ho, hn⟩
end
theorem lnAll_snoc (g : GSt) (l : List ByteArray) (s : ByteArray) : lnAll g (l ++ [s]) = (lnAll g l).bind fun g2 => lnStep g2 s := by
  induction l generalizing g with
  | nil =>
    show (lnStep g s).bind (fun g2 => lnAll g2 []) = lnStep g s
    cases lnStep g s <;> rfl
  | cons a r ih =>
    rw [List.cons_append, lnAll, lnAll]
    cases lnStep g a with
    | none => rfl
    | some g2 => simp only [Option.bind_some]; exact ih g2
theorem lnAll_none {g : GSt} {l : List ByteArray} {n i : Nat} (hi : i < n) (hn : n ≤ l.length) (h : lnAll g (l.take (i + 1)) = none) : lnAll g (l.take n) = none := by
  have e : ∀ (a b : List ByteArray) (g : GSt), lnAll g a = none → lnAll g (a ++ b) = none := by
    intro a b
    induction a with
    | nil => intro g h; cases h
    | cons x r ih =>
      intro g h
      rw [List.cons_append, lnAll]
      rw [lnAll] at h
      cases q : lnStep g x with
      | none => rfl
      | some g2 => rw [q] at h; simp only [Option.bind_some] at h ⊢; exact ih g2 h
  have e2 := (List.take_append_drop (i + 1) (l.take n)).symm
  rw [List.take_take, show min (i + 1) n = i + 1 by omega] at e2
  rw [e2]
  exact e _ _ _ h
theorem getV3_end {t : ByteArray} (h : (chunks t 10).getD ((chunks t 10).length - 1) ByteArray.empty ≠ ByteArray.empty) : getV3 t = none := by unfold getV3; simp only; rw [if_neg h]
theorem getV3_lines {t : ByteArray} (h : lnAll ⟨[], [], [], false⟩ ((chunks t 10).take ((chunks t 10).length - 1)) = none) : getV3 t = none := by
  unfold getV3
  simp only
  split
  · rw [h]; rfl
  · rfl
theorem getV3_main {t : ByteArray} (h0 : (chunks t 10).getD ((chunks t 10).length - 1) ByteArray.empty = ByteArray.empty) {g : GSt} (h : lnAll ⟨[], [], [], false⟩ ((chunks t 10).take ((chunks t 10).length - 1)) = some g) :
    getV3 t = (boAll (nmE (g.sy.map (·.f0))) (nmE (g.fs.map (·.f0))) g.fs g.bo).map fun fs => (g.sy, fs, g.large) := by
  unfold getV3
  simp only
  rw [if_pos h0, h]; rfl
theorem nmE_put {x : ByteArray} {l : List ByteArray} (h : mget x (nmE l) = none) : mput x (l.length : Int) (nmE l) = nmE (l ++ [x]) := by
  rw [nmE_snoc, if_pos h]
  exact mput_new (mget_none.1 h)
theorem nmE_keep {x : ByteArray} {l : List ByteArray} {v : Int} (h : mget x (nmE l) = some v) : nmE l = nmE (l ++ [x]) := by
  rw [nmE_snoc, if_neg (by rw [h]; simp)]
end Go.Proofs.YthflpbgloeimfaaGreatDoor.H
namespace Go.Proofs.YthflpbgloeimfaaGreatDoor.H
open Go.RowKit Go.Proofs.YthflpbgloeimfaaGreatDoorW.PrintWords Go.Proofs.YthflpbgloeimfaaGreatDoorW.PrintLast Go.Proofs.YthflpbgloeimfaaGreatDoorW.PrintMore
open Go.Proofs.YthflpbgloeimfaaGreatDoor.Q (S47 k47 rd_T47 z47 at_T47 S50 k50 rd_T50 z50 at_T50 S52 k52 rd_T52 at_T52 z52 S71 k71 rd_T71 at_T71)
set_option linter.unusedVariables false
set_option linter.unusedSimpArgs false
theorem GH3.far {w W : World} {x y : Value} (h : GH3 w W x y) {b : Nat} (hb : w.heap.size + 2 ≤ b) (i : Nat) (u : Value) : GH3 w (W.setCell ⟨b, i, none⟩ u) x y :=
  ⟨h.hb.setCell (p := ⟨b, i, none⟩) (by show w.heap.size ≤ b; omega) _, blk_far h.ha (by show w.heap.size ≠ b; omega) _, blk_far h.he (by show w.heap.size + 1 ≠ b; omega) _⟩
section
variable {w wi w1 : World} {L : List ByteArray} {bl B1 B2 b : Nat} {tx : List UInt8} {sy : List S71} {fs fs2 : List S52} {bo : List ByteArray} {e1 e2 : Ents} {A1 A2 A3 : Option Addr} {c1 c2 c3 : Nat}
theorem FL.setT (h : FL w wi L bl B1 B2 b tx sy fs bo e1 e2 A1 c1 A2 c2 A3 c3) (s : ByteArray) : FL w (wi.setCell ⟨b, 0, none⟩ (.string s)) L bl B1 B2 b s.data.toList sy fs bo e1 e2 A1 c1 A2 c2 A3 c3 := by
  have hn := h.n
  have ne : ∀ k, b < k → k ≠ b := fun k hk => by omega
  exact ⟨h.g.far (by omega) _ _, blk_far h.l (by show bl ≠ b; omega) _, h.rt.set s, h.m1.far (by show B1 ≠ b; omega) _, h.m2.far (by show B2 ≠ b; omega) _, Kd.R_far h.r1 ne _, Kd.R_far h.r2 ne _, Kd.R_far h.r3 ne _, hn⟩
theorem FL.call {l2 : List UInt8} (h : FL w wi L bl B1 B2 b tx sy fs bo e1 e2 A1 c1 A2 c2 A3 c3) (hk : KR b wi w1) (hr : RT b l2 (.map (some B1)) (.map (some B2)) w1) : FL w w1 L bl B1 B2 b l2 sy fs bo e1 e2 A1 c1 A2 c2 A3 c3 := by
  have hn := h.n
  have ne : ∀ k, b < k → k ≠ b := fun k hk => by omega
  exact ⟨h.g.call hk (by omega), hk.blk (by omega) h.l, hr, h.m1.kept (hk.keep.2 B1 h.m1.lt (by omega) (by simp)), h.m2.kept (hk.keep.2 B2 h.m2.lt (by omega) (by simp)), hk.rr h.r1 ne, hk.rr h.r2 ne, hk.rr h.r3 ne, hn⟩
theorem FL.rm (h : FL w wi L bl B1 B2 b tx sy fs bo e1 e2 A1 c1 A2 c2 A3 c3) : RM b tx B1 B2 e1 e2 wi := by
  have hn := h.n
  exact ⟨h.rt, h.m1, h.m2, by omega, by omega⟩
theorem FL.stored (h : FL w wi L bl B1 B2 b tx sy fs bo e1 e2 A1 c1 A2 c2 A3 c3) (hl : fs2.length = fs.length) (ho : Kd.R k52 52 w1 w.heap.size (fun k => b < k) (.slice A2 fs.length c2) fs2) (hg : wi.grownBy w1 (Value.slice A2 fs.length c2).ownBlock) :
    FL w w1 L bl B1 B2 b tx sy fs2 bo e1 e2 A1 c1 A2 c2 A3 c3 := by
  have hn := h.n
  have hr : ∀ k, (Value.slice A2 fs.length c2).ownBlock = some k → b < k := h.r2.1
  have nb : ∀ g, g ≤ b → some g ≠ (Value.slice A2 fs.length c2).ownBlock := fun g hg e => by have := hr _ e.symm; omega
  have hb : Below w.heap.size w w1 := pw_below_grown h.g.hb _ h.g.hb.size hg (fun k hk => by have := hr k hk; omega)
  have hgg := h.g.grown hb hg (fun k hk => by have := hr k hk; omega)
  rw [← hl] at hgg ho
  exact ⟨hgg, blk_grown h.l hg (nb _ (by omega)), ⟨blk_grown h.rt.blk hg (nb _ (Nat.le_refl _))⟩, h.m1.grown hg (nb _ (by omega)), h.m2.grown hg (nb _ (by omega)), Kd.R_over h.r1 h.r2 (by decide) hg, ho, Kd.R_over h.r3 h.r2 (by decide) hg, hn⟩
theorem FL.fin (h : FL w wi L bl B1 B2 b tx sy fs bo e1 e2 A1 c1 A2 c2 A3 c3) (v0 v1 e : Value) :
    (Kd.C k71 (((wi.setCell ⟨w.heap.size, 0, none⟩ v0).setCell ⟨w.heap.size, 1, none⟩ v1).setCell ⟨w.heap.size + 1, 0, none⟩ e) A1 sy.length sy ∧ sy.length ≤ c1 ∧ Kd.C k52 (((wi.setCell ⟨w.heap.size, 0, none⟩ v0).setCell ⟨w.heap.size, 1, none⟩ v1).setCell ⟨w.heap.size + 1, 0, none⟩ e) A2 fs.length fs ∧ fs.length ≤ c2) ∧
    Below w.heap.size w (((wi.setCell ⟨w.heap.size, 0, none⟩ v0).setCell ⟨w.heap.size, 1, none⟩ v1).setCell ⟨w.heap.size + 1, 0, none⟩ e) ∧ (((wi.setCell ⟨w.heap.size, 0, none⟩ v0).setCell ⟨w.heap.size, 1, none⟩ v1).setCell ⟨w.heap.size + 1, 0, none⟩ e).heap[w.heap.size]? = some (.cells #[v0, v1] 25 (0, 0)) ∧
    (((wi.setCell ⟨w.heap.size, 0, none⟩ v0).setCell ⟨w.heap.size, 1, none⟩ v1).setCell ⟨w.heap.size + 1, 0, none⟩ e).heap[w.heap.size + 1]? = some (.cells #[e] 26 (0, 0)) := by
  have hn := h.n
  have ne : ∀ k, b < k → k ≠ w.heap.size := fun k hk => by omega
  have ne1 : ∀ k, b < k → k ≠ w.heap.size + 1 := fun k hk => by omega
  have q := (h.g.set0 v0).set1 v1
  have r1 := Kd.R_reads' (Kd.R_far (p := ⟨w.heap.size + 1, 0, none⟩) (Kd.R_far (p := ⟨w.heap.size, 1, none⟩) (Kd.R_far (p := ⟨w.heap.size, 0, none⟩) h.r1 ne v0) ne v1) ne1 e)
  have r2 := Kd.R_reads' (Kd.R_far (p := ⟨w.heap.size + 1, 0, none⟩) (Kd.R_far (p := ⟨w.heap.size, 1, none⟩) (Kd.R_far (p := ⟨w.heap.size, 0, none⟩) h.r2 ne v0) ne v1) ne1 e)
  exact ⟨⟨r1.2.2, r1.2.1, r2.2.2, r2.2.1⟩, q.hb.setCell (p := ⟨w.heap.size + 1, 0, none⟩) (Nat.le_succ _) _, blk_far q.ha (by show w.heap.size ≠ w.heap.size + 1; omega) _, blk_set q.he 0 _⟩
theorem FL.gone (h : FL w wi L bl B1 B2 b tx sy fs bo e1 e2 A1 c1 A2 c2 A3 c3) (hk : KR b wi w1) : GH3 w w1 (.slice A1 sy.length c1) (.slice A2 fs.length c2) := by
  have hn := h.n
  exact h.g.call hk (by omega)
end
theorem row_body {W : World} {base g n cap : Nat} {ok okp : Nat → Prop} {xs : List S52} (HO : Kd.R k52 52 W base ok (.slice (some ⟨g, 0, none⟩) n cap) xs) {j : Nat} (hi : j < n) (tt : S50) {v : Value} (hv : k50.R 50 W base okp v tt.f2) (hokp : ∀ k, okp k → ok k ∧ k ≠ g) :
    Kd.R k52 52 (W.setCells g (j * 5 + 2) [.int .i64 tt.f0, .int .i64 tt.f1, v]) base ok (.slice (some ⟨g, 0, none⟩) n cap) (xs.set j ⟨(xs.getD j z52).f0, (xs.getD j z52).f1, tt⟩) ∧ W.grownBy (W.setCells g (j * 5 + 2) [.int .i64 tt.f0, .int .i64 tt.f1, v]) (some g) := by
  obtain ⟨c, hcl, hM, hcc, _⟩ := Kd.R_elem HO z52 (j : Int) (by omega) (by omega)
  rw [Int.toNat_natCast] at hM hcc
  obtain ⟨v1, v4, rfl, g1, g4⟩ := Q.k52_openM hM
  have h := Kd.R_seg (okp := fun k => ok k ∧ k ≠ g) HO (j : Int) (by omega) (by omega) hcl (j := 2) (seg := [.int .i64 tt.f0, .int .i64 tt.f1, v]) (by rw [Int.toNat_natCast]; exact hcc) (by show 2 + 3 ≤ 5; decide) (x' := ⟨(xs.getD j z52).f0, (xs.getD j z52).f1, tt⟩)
    (Q.k52_mkM W base _ ⟨(xs.getD j z52).f0, (xs.getD j z52).f1, tt⟩ g1 (Kd.R_mono hv hokp)) (fun k hk => hk)
  rw [Int.toNat_natCast] at h
  exact h
theorem body_cells {W : World} {base g n cap : Nat} {ok : Nat → Prop} {xs : List S52} (HO : Kd.R k52 52 W base ok (.slice (some ⟨g, 0, none⟩) n cap) xs) {j : Nat} (hi : j < n) :
    (∃ x y z, W.cell? ⟨g, j * 5 + 2, none⟩ = some x ∧ W.cell? ⟨g, j * 5 + 2 + 1, none⟩ = some y ∧ W.cell? ⟨g, j * 5 + 2 + 2, none⟩ = some z) ∧ W.frozen? ⟨g, j * 5 + 2, none⟩ = false ∧ W.frozen? ⟨g, j * 5 + 2 + 1, none⟩ = false ∧ W.frozen? ⟨g, j * 5 + 2 + 2, none⟩ = false := by
  obtain ⟨c, hcl, hM, hcc, hf⟩ := Kd.R_elem HO z52 (j : Int) (by omega) (by omega)
  rw [Int.toNat_natCast] at hM hcc hf
  obtain ⟨v1, v4, rfl, g1, g4⟩ := Q.k52_openM hM
  exact ⟨⟨_, _, _, hcc 2 _ rfl, hcc 3 _ rfl, hcc 4 _ rfl⟩, hf 2, hf 3, hf 4⟩
theorem lnStep_bo {g g2 : GSt} {s : ByteArray} (h : lnStep g s = some g2) : ∀ x ∈ g2.bo, x ∈ g.bo ∨ x.size ≤ s.size := by
  unfold lnStep at h
  simp only at h
  split at h
  · obtain ⟨y, _, rfl⟩ := Option.map_eq_some_iff.1 h
    exact fun x hx => .inl hx
  · split at h
    · split at h
      · cases h
      · obtain rfl := Option.some.inj h
        intro x hx
        rcases List.mem_append.1 hx with hx | hx
        · exact .inl hx
        · obtain rfl := List.mem_singleton.1 hx
          right
          show (Lib.cut (Lib.cut (Lib.trimPrefix s.data.toList pFun) [32, 58, 32]).2.1 [32, 61, 32]).2.1.toArray.size ≤ s.size
          rw [List.size_toArray, Lib.size_eq]
          have i1 := (cut_size (Lib.trimPrefix s.data.toList pFun) [32, 58, 32]).2
          have i2 := (cut_size (Lib.cut (Lib.trimPrefix s.data.toList pFun) [32, 58, 32]).2.1 [32, 61, 32]).2
          have := trim_len s.data.toList pFun
          omega
    · cases h
theorem lnAll_bo {m : Nat} : ∀ (l : List ByteArray) (g g2 : GSt), (∀ s ∈ l, s.size ≤ m) → (∀ x ∈ g.bo, x.size ≤ m) → lnAll g l = some g2 → ∀ x ∈ g2.bo, x.size ≤ m := by
  intro l
  induction l with
  | nil => intro g g2 _ hg h; obtain rfl := Option.some.inj h; exact hg
  | cons s r ih =>
    intro g g2 hl hg h
    rw [lnAll] at h
    obtain ⟨g1, h1, h⟩ := Option.bind_eq_some_iff.1 h
    refine ih g1 g2 (fun x hx => hl x (List.mem_cons_of_mem _ hx)) (fun x hx => ?_) h
    rcases lnStep_bo h1 x hx with hx | hx
    · exact hg x hx
    · exact Nat.le_trans hx (hl s (List.mem_cons_self ..))
theorem boAll_next {e1 e2 : Ents} {fs : List S52} {bo : List ByteArray} {j : Nat} (h : j < bo.length) (h2 : bo.length = fs.length) {dn : List S52} (hd : dn.length = j) :
    boAll e1 e2 (fs.drop j) (bo.drop j) = (tmR e1 e2 (bo.getD j ByteArray.empty).data.toList).bind fun p => if p.2 = [] then (boAll e1 e2 (fs.drop (j + 1)) (bo.drop (j + 1))).map (⟨(fs.getD j z52).f0, (fs.getD j z52).f1, p.1⟩ :: ·) else none := by
  have h3 : j < fs.length := by omega
  rw [List.drop_eq_getElem_cons h, List.drop_eq_getElem_cons h3, boAll]
  simp [List.getD_eq_getElem?_getD, h, h3]
theorem boAll_end {e1 e2 : Ents} {fs : List S52} {bo : List ByteArray} (h2 : bo.length = fs.length) : boAll e1 e2 (fs.drop bo.length) (bo.drop bo.length) = some [] := by
  rw [List.drop_eq_nil_of_le (by omega), List.drop_eq_nil_of_le (Nat.le_refl _)]; rfl
theorem set_next {fs dn : List S52} {j : Nat} (hd : dn.length = j) (h : j < fs.length) (x : S52) : (dn ++ fs.drop j).set j x = (dn ++ [x]) ++ fs.drop (j + 1) := by
  subst hd
  rw [List.set_append_right _ _ (Nat.le_refl _), Nat.sub_self, List.drop_eq_getElem_cons h, List.set_cons_zero, List.append_assoc]
  rfl
theorem get_next {fs dn : List S52} {j : Nat} (hd : dn.length = j) (h : j < fs.length) : (dn ++ fs.drop j).getD j z52 = fs.getD j z52 := by
  subst hd
  rw [List.getD_eq_getElem?_getD, List.getD_eq_getElem?_getD, List.getElem?_append_right (Nat.le_refl _), Nat.sub_self, List.getElem?_drop, Nat.add_zero]
end Go.Proofs.YthflpbgloeimfaaGreatDoor.H
