/- Arrays of whole numbers as keys of maps. -/
import Derived.Test.YtmphigeefppfpaaHm
namespace Go.Proofs.YtmphigeefppfpaaW.PrintWords
open Go.RowKit Go.Maps Go.ChangeMaps
theorem mapM_some {α β : Type} {f : α → Option β} : ∀ (l : List α), (∀ x ∈ l, ∃ y, f x = some y) → ∃ ys, l.mapM f = some ys
  | [], _ => ⟨[], rfl⟩
  | x :: l, h => by
    obtain ⟨y, hy⟩ := h x List.mem_cons_self
    obtain ⟨ys, hys⟩ := mapM_some l (fun z hz => h z (List.mem_cons_of_mem _ hz))
    exact ⟨y :: ys, by simp [List.mapM_cons, hy, hys]⟩
/-- An array of n numbers, as a value. -/
def encA (q : IntKind) (xs : List Int) : Value := .agg (xs.map (Value.int q)).toArray
theorem keyLits_arr {P : Program} {k e : TypeId} {q : IntKind} {n : Nat} (hk : P.underlying k = some (.array n e)) (he : P.underlying e = some (.int q)) (ce : P.cellsOf e = 1) (ck : P.cellsOf k = n) {xs : List Int} (hl : xs.length = n) (hw : ∀ x ∈ xs, (Lit.int q x).wf = true) (d : Nat) :
    ∃ ls, P.keyLits (d + 2) k (xs.map (Value.int q)) = some ls := by
  rw [Program.keyLits.eq_def]
  simp only [hk]
  rw [if_pos (by rw [List.length_map, hl, ck])]
  obtain ⟨ys, hys⟩ := mapM_some (f := fun i => P.keyLits (d + 1) e (((xs.map (Value.int q)).drop (i * P.cellsOf e)).take (P.cellsOf e))) (List.range n) (fun i hi => by
    have hi' : i < xs.length := by rw [hl]; exact List.mem_range.1 hi
    rw [ce, Nat.mul_one, List.drop_eq_getElem_cons (by rw [List.length_map]; exact hi'), List.take_succ_cons, List.take_zero, List.getElem_map]
    refine ⟨[.int q xs[i]], ?_⟩
    rw [Program.keyLits.eq_def]
    simp only [he]
    rw [if_pos ⟨trivial, hw _ (List.getElem_mem hi')⟩])
  exact ⟨ys.flatten, by rw [hys]; rfl⟩
theorem cells_encA {q : IntKind} {xs : List Int} : (encA q xs).cells.toList = xs.map (Value.int q) := by simp [encA, Value.cells]
theorem keyArr {P : Program} {k e : TypeId} {q : IntKind} {n : Nat} (hl : laidOutB P = true) (hrow : k < P.types.size) (hkt : P.keyTypeAt 5 k = true) (hkey : P.keyType k = true) (hk : P.underlying k = some (.array n e)) (he : P.underlying e = some (.int q)) (ce : P.cellsOf e = 1) (ck : P.cellsOf k = n) (hsz : 1 ≤ P.types.size) :
    KeyB P k (encA q) (fun xs => xs.length = n ∧ ∀ x ∈ xs, (Lit.int q x).wf = true) where
  K := Keyed.of_law (deep_law_laid hl (m := 5) (by decide) hrow hkt (by simp only [hk]))
  lit := fun xs hx => by
    obtain ⟨d, hd⟩ : ∃ d, P.types.size + 1 = d + 2 := ⟨P.types.size - 1, by omega⟩
    obtain ⟨ls, hls⟩ := keyLits_arr hk he ce ck hx.1 hx.2 d
    refine ⟨.string (keyBytes ls), ?_⟩
    simp only [keyOf, hk]
    rw [if_pos (by rw [hkey, Bool.true_and]; simp [encA, Value.formed, hk, ck, hx.1]), cells_encA, hd, hls]
    rfl
  inj := fun xs ys h => by
    simp only [encA, Value.agg.injEq] at h
    have h2 : xs.map (Value.int q) = ys.map (Value.int q) := congrArg Array.toList h
    have hinj : ∀ a b : Int, Value.int q a = Value.int q b → a = b := fun a b h => by cases h; rfl
    exact (List.map_inj_right hinj).1 h2
end Go.Proofs.YtmphigeefppfpaaW.PrintWords
