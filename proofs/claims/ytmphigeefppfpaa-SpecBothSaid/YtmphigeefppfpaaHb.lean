/- The law's own example (alive), and SpecRead's walk. -/
import Derived.Test.YtmphigeefppfpaaHa
import Derived.Test.YtmphigeefppfpaaQ3
namespace Go.Proofs.Ytmphigeefppfpaa.H
open Go.RowKit Go.Proofs.YtmphigeefppfpaaW.PrintWords Go.Proofs.YtmphigeefppfpaaW.PrintLast Go.Proofs.YtmphigeefppfpaaW.PrintMore

/-- Read's answer as a value. -/
def tri (r : Int × Int × Int) : Value := .tuple #[.int .i64 r.1, .int .i64 r.2.1, .int .i64 r.2.2]
theorem read_calls (ev st : Int) (A : Option Addr) (c : Nat) (l : List (List Int)) (A1 : Option Addr) (c1 : Nat) (xs : List Int) (w : World) (hr : Kd.C (Kd.slice 3 (Kd.int .i64)) w A l.length l) (hr1 : Kd.C (Kd.int .i64) w A1 xs.length xs) :
    Calls Try.prog 14 #[.agg #[.int .i64 ev, .int .i64 st, .slice A l.length c], .slice A1 xs.length c1] w fun e w' => e = .returned (tri (readVal ev st l xs)) ∧ Below w.heap.size w w' := by
  unfold readVal
  cases h : specOk ev st l with
  | false => exact read_bad ev st A c l A1 c1 xs w hr h
  | true =>
    by_cases hx : xs.length > 4096
    · rw [if_neg (by simp), if_pos hx]
      exact read_long ev st A c l A1 c1 xs w hr h hx
    · cases he : xs.any (evBad ev) with
      | true =>
        rw [if_neg (by simp), if_neg hx, if_pos rfl]
        exact read_arg ev st A c l A1 c1 xs w hr hr1 h hx he
      | false =>
        rw [if_neg (by simp), if_neg hx, if_neg (by simp)]
        exact read_go ev st A c l A1 c1 xs w hr hr1 h hx he

theorem blk_new' {W : World} {k : Nat} (o : Obj) (h : W.heap.size = k) : (W.alloc o).heap[k]? = some o := h ▸ blk_new W o
theorem ints_of_block {W : World} {b : Nat} {t : TypeId} {zs : List Int} (hm : zs.length ≤ 9223372036854775807) (h : W.heap[b]? = some (.cells (zs.map (Value.int .i64)).toArray t (0, 0))) : Kd.C (Kd.int .i64) W (some ⟨b, 0, none⟩) zs.length zs := by
  refine ⟨rfl, hm, fun _ => ⟨_, rfl, fun j p hj => ⟨[.int .i64 p], rfl, rfl, fun i u hu => ?_⟩⟩⟩
  cases i with
  | zero =>
    have hu' : Value.int .i64 p = u := by simpa using hu
    subst hu'
    rw [add_plain, blk_cell h]
    simp [Kd.int, Kd.scalar, hj]
  | succ i => simp at hu
theorem rows2_of_blocks {W : World} {b b0 b1 : Nat} {t : TypeId} {x y : List Int} {cx cy : Nat} (hx : Kd.C (Kd.int .i64) W (some ⟨b0, 0, none⟩) x.length x) (hy : Kd.C (Kd.int .i64) W (some ⟨b1, 0, none⟩) y.length y) (hcx : x.length ≤ cx) (hcy : y.length ≤ cy)
    (h : W.heap[b]? = some (.cells #[.slice (some ⟨b0, 0, none⟩) x.length cx, .slice (some ⟨b1, 0, none⟩) y.length cy] t (0, 0))) : Kd.C (Kd.slice 3 (Kd.int .i64)) W (some ⟨b, 0, none⟩) 2 [x, y] := by
  refine ⟨rfl, by omega, fun _ => ⟨_, rfl, fun j p hj => ?_⟩⟩
  match j, hj with
  | 0, hj =>
    obtain rfl : x = p := by simpa using hj
    refine ⟨[.slice (some ⟨b0, 0, none⟩) x.length cx], rfl, ⟨_, _, rfl, hcx, hx⟩, fun i u hu => ?_⟩
    cases i with
    | zero =>
      obtain rfl : _ = u := by simpa using hu
      rw [add_plain, blk_cell h]; simp [Kd.slice]
    | succ i => simp at hu
  | 1, hj =>
    obtain rfl : y = p := by simpa using hj
    refine ⟨[.slice (some ⟨b1, 0, none⟩) y.length cy], rfl, ⟨_, _, rfl, hcy, hy⟩, fun i u hu => ?_⟩
    cases i with
    | zero =>
      obtain rfl : _ = u := by simpa using hu
      rw [add_plain, blk_cell h]; simp [Kd.slice]
    | succ i => simp at hu
  | j + 2, hj => simp at hj

def exL : List (List Int) := [[1, -1], [-1, 0]]
theorem ex1 : readVal 2 0 exL [0, 1, 0] = (1, 3, 0) := by decide +kernel
theorem ex2 : readVal 2 0 exL [0, 0] = (-1, 1, 0) := by decide +kernel

set_option maxHeartbeats 1000000 in
theorem alive_calls (w : World) : Calls Try.prog 16 #[] w fun e w' => e = .returned (.bool true) ∧ Below w.heap.size w w' := by
  go_enter Try.func16, Try.ntmps16
  go_wp2_with fail
  have hB0 := Aside0.mk ((by repeat (first | exact Below.refl _ _ | apply below_alloc)) : Below w.heap.size w (((((w.alloc (Obj.cells #[Value.int IntKind.i64 1, Value.int IntKind.i64 (-1)] 3)).alloc (Obj.cells #[Value.int IntKind.i64 (-1), Value.int IntKind.i64 0] 3)).alloc (Obj.cells #[Value.slice (some { block := w.heap.size, off := 0 }) 2 2, Value.slice (some { block := w.heap.size + 1, off := 0 }) 2 2] 25)).alloc (Obj.cells #[Value.int IntKind.i64 2, Value.int IntKind.i64 0, Value.slice (some { block := w.heap.size + 1 + 1, off := 0 }) 2 2] 24)).alloc (Obj.cells #[Value.int IntKind.i64 0, Value.int IntKind.i64 1, Value.int IntKind.i64 0] 3)))
  have h0 := Aside0.mk (blk_alloc (blk_alloc (blk_alloc (blk_alloc (blk_new w (Obj.cells #[Value.int IntKind.i64 1, Value.int IntKind.i64 (-1)] 3)) (Obj.cells #[Value.int IntKind.i64 (-1), Value.int IntKind.i64 0] 3)) (Obj.cells #[Value.slice (some { block := w.heap.size, off := 0 }) 2 2, Value.slice (some { block := w.heap.size + 1, off := 0 }) 2 2] 25)) (Obj.cells #[Value.int IntKind.i64 2, Value.int IntKind.i64 0, Value.slice (some { block := w.heap.size + 1 + 1, off := 0 }) 2 2] 24)) (Obj.cells #[Value.int IntKind.i64 0, Value.int IntKind.i64 1, Value.int IntKind.i64 0] 3))
  have h1 := Aside0.mk (blk_alloc (blk_alloc (blk_alloc (blk_new' (W := w.alloc (Obj.cells #[Value.int IntKind.i64 1, Value.int IntKind.i64 (-1)] 3)) (k := w.heap.size + 1) (Obj.cells #[Value.int IntKind.i64 (-1), Value.int IntKind.i64 0] 3) (by simp)) (Obj.cells #[Value.slice (some { block := w.heap.size, off := 0 }) 2 2, Value.slice (some { block := w.heap.size + 1, off := 0 }) 2 2] 25)) (Obj.cells #[Value.int IntKind.i64 2, Value.int IntKind.i64 0, Value.slice (some { block := w.heap.size + 1 + 1, off := 0 }) 2 2] 24)) (Obj.cells #[Value.int IntKind.i64 0, Value.int IntKind.i64 1, Value.int IntKind.i64 0] 3))
  have h2 := Aside0.mk (blk_alloc (blk_alloc (blk_new' (W := (w.alloc (Obj.cells #[Value.int IntKind.i64 1, Value.int IntKind.i64 (-1)] 3)).alloc (Obj.cells #[Value.int IntKind.i64 (-1), Value.int IntKind.i64 0] 3)) (k := w.heap.size + 1 + 1) (Obj.cells #[Value.slice (some { block := w.heap.size, off := 0 }) 2 2, Value.slice (some { block := w.heap.size + 1, off := 0 }) 2 2] 25) (by simp)) (Obj.cells #[Value.int IntKind.i64 2, Value.int IntKind.i64 0, Value.slice (some { block := w.heap.size + 1 + 1, off := 0 }) 2 2] 24)) (Obj.cells #[Value.int IntKind.i64 0, Value.int IntKind.i64 1, Value.int IntKind.i64 0] 3))
  have h3 := Aside0.mk (blk_alloc (blk_new' (W := ((w.alloc (Obj.cells #[Value.int IntKind.i64 1, Value.int IntKind.i64 (-1)] 3)).alloc (Obj.cells #[Value.int IntKind.i64 (-1), Value.int IntKind.i64 0] 3)).alloc (Obj.cells #[Value.slice (some { block := w.heap.size, off := 0 }) 2 2, Value.slice (some { block := w.heap.size + 1, off := 0 }) 2 2] 25)) (k := w.heap.size + 1 + 1 + 1) (Obj.cells #[Value.int IntKind.i64 2, Value.int IntKind.i64 0, Value.slice (some { block := w.heap.size + 1 + 1, off := 0 }) 2 2] 24) (by simp)) (Obj.cells #[Value.int IntKind.i64 0, Value.int IntKind.i64 1, Value.int IntKind.i64 0] 3))
  have h4 := Aside0.mk (blk_new' (W := (((w.alloc (Obj.cells #[Value.int IntKind.i64 1, Value.int IntKind.i64 (-1)] 3)).alloc (Obj.cells #[Value.int IntKind.i64 (-1), Value.int IntKind.i64 0] 3)).alloc (Obj.cells #[Value.slice (some { block := w.heap.size, off := 0 }) 2 2, Value.slice (some { block := w.heap.size + 1, off := 0 }) 2 2] 25)).alloc (Obj.cells #[Value.int IntKind.i64 2, Value.int IntKind.i64 0, Value.slice (some { block := w.heap.size + 1 + 1, off := 0 }) 2 2] 24)) (k := w.heap.size + 1 + 1 + 1 + 1) (Obj.cells #[Value.int IntKind.i64 0, Value.int IntKind.i64 1, Value.int IntKind.i64 0] 3) (by simp))
  generalize (((((w.alloc (Obj.cells #[Value.int IntKind.i64 1, Value.int IntKind.i64 (-1)] 3)).alloc (Obj.cells #[Value.int IntKind.i64 (-1), Value.int IntKind.i64 0] 3)).alloc (Obj.cells #[Value.slice (some { block := w.heap.size, off := 0 }) 2 2, Value.slice (some { block := w.heap.size + 1, off := 0 }) 2 2] 25)).alloc (Obj.cells #[Value.int IntKind.i64 2, Value.int IntKind.i64 0, Value.slice (some { block := w.heap.size + 1 + 1, off := 0 }) 2 2] 24)).alloc (Obj.cells #[Value.int IntKind.i64 0, Value.int IntKind.i64 1, Value.int IntKind.i64 0] 3)) = W at *
  have HC0 := Aside0.mk (rows2_of_blocks (x := [1, -1]) (y := [-1, 0]) (cx := 2) (cy := 2) (ints_of_block (by decide) h0.out) (ints_of_block (by decide) h1.out) (by decide) (by decide) h2.out)
  have HC1 := Aside0.mk (ints_of_block (zs := [0, 1, 0]) (by decide) h4.out)
  refine (read_calls 2 0 (some ⟨w.heap.size + 1 + 1, 0, none⟩) 2 exL (some ⟨w.heap.size + 1 + 1 + 1 + 1, 0, none⟩) 3 [0, 1, 0] W HC0.out HC1.out).mono ?_
  rw [ex1]
  rintro e w1 ⟨rfl, hb⟩
  have HB1 := Aside0.mk (below_then hB0.out (hB0.out).size hb)
  have hC0 := Aside0.mk (Kd.C_below HC0.out hb)
  have h3' := Aside0.mk (blk_below h3.out hb)
  clear h0 h1 h2 h3 h4 HC0 HC1 hB0 hb
  unfold tri
  have hz0 : w1.cell? ⟨w.heap.size + 1 + 1 + 1, 0, none⟩ = some (.int .i64 2) := (blk_cell h3'.out 0).trans rfl
  have hz1 : w1.cell? ⟨w.heap.size + 1 + 1 + 1, 1, none⟩ = some (.int .i64 0) := (blk_cell h3'.out 1).trans rfl
  have hz2 : w1.cell? ⟨w.heap.size + 1 + 1 + 1, 2, none⟩ = some (.slice (some ⟨w.heap.size + 1 + 1, 0, none⟩) 2 2) := (blk_cell h3'.out 2).trans rfl
  go_wp2_with fail
  have HC1 := Aside0.mk (ints_of_block (zs := [0, 0]) (by decide) (blk_new w1 (Obj.cells #[Value.int IntKind.i64 0, Value.int IntKind.i64 0] 3)))
  refine (read_calls 2 0 (some ⟨w.heap.size + 1 + 1, 0, none⟩) 2 exL (some ⟨w1.heap.size, 0, none⟩) 2 [0, 0] _ (Kd.C_below hC0.out (below_alloc (Below.refl _ _) _)) HC1.out).mono ?_
  rw [ex2]
  rintro e w2 ⟨rfl, hb⟩
  have HB2 := Aside0.mk (below_then (below_alloc HB1.out _) (below_alloc HB1.out _).size hb)
  clear hb HC1 hC0 h3' HB1
  unfold tri
  go_wp2
  go_ret
  exact ⟨rfl, HB2.out⟩
end Go.Proofs.Ytmphigeefppfpaa.H
