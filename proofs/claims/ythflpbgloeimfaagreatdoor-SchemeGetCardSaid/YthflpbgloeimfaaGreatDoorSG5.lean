/- What schemeGet_calls, handed_and_shaped, own, laidOut, laid7, mx_of_shaped, arg_scheme needs, out of my texts, by a program (slim.py). -/
import Derived.Test.YthflpbgloeimfaaGreatDoorSG4
namespace Go.Proofs.YthflpbgloeimfaaGreatDoor.H
open Go.RowKit
open Go.Proofs.YthflpbgloeimfaaGreatDoor.Q (S47 k47 rd_T47 z47 at_T47 S50 k50 rd_T50 z50 at_T50 S52 k52 rd_T52 at_T52 z52 S71 k71 rd_T71 at_T71)
open Go.RowKit Go.Proofs.YthflpbgloeimfaaGreatDoorW.PrintWords
open Go.RowKit Go.Proofs.YthflpbgloeimfaaGreatDoorW.PrintWords Go.Proofs.YthflpbgloeimfaaGreatDoorW.PrintLast Go.Proofs.YthflpbgloeimfaaGreatDoorW.PrintMore
set_option linter.unusedVariables false
set_option linter.unusedSimpArgs false
theorem index_one_none {c : UInt8} : ∀ {p : List UInt8}, c ∉ p → Lib.index p [c] = -1
 | [], _ => rfl
 | b :: l, h => by
  have hb : ¬ c = b := fun e => h (e ▸ l19_ ..)
  have hl : c ∉ l := fun hm => h (l20_ _ hm)
  rw [Lib.index, index_one_none hl]
  have e : List.isPrefixOf [c] (b :: l) = false := by simp [List.isPrefixOf, hb]
  rw [e]; rfl
theorem index_one_hit {c : UInt8} : ∀ {p r : List UInt8}, c ∉ p → Lib.index (p ++ c :: r) [c] = p.length
 | [], r, _ => by rw [List.nil_append, Lib.index]; simp [List.isPrefixOf]
 | b :: l, r, h => by
  have hb : ¬ c = b := fun e => h (e ▸ l19_ ..)
  have hl : c ∉ l := fun hm => h (l20_ _ hm)
  rw [List.cons_append, Lib.index, index_one_hit hl]
  have e : List.isPrefixOf [c] (b :: (l ++ c :: r)) = false := by simp [List.isPrefixOf, hb]
  rw [e]
  have : (((l.length : Nat) : Int) == -1) = false := by rw [beq_eq_false_iff_ne]; omega
  rw [this]
  simp
theorem index_one_cases (c : UInt8) (l : List UInt8) : (c ∉ l ∧ Lib.index l [c] = -1) ∨ ∃ p r, c ∉ p ∧ l = p ++ c :: r ∧ Lib.index l [c] = p.length := by
 by_cases h : c ∈ l
 ·right
  obtain ⟨p, r, rfl, hp⟩ : ∃ p r, l = p ++ c :: r ∧ c ∉ p := by
   induction l with
   | nil => cases h
   | cons a t ih =>
    by_cases e : c = a
    ·exact ⟨[], t, by rw [e]; rfl, by simp⟩
    ·rcases List.mem_cons.1 h with h | h
     ·exact absurd h e
     ·obtain ⟨p, r, rfl, hp⟩ := ih h
      exact ⟨a :: p, r, rfl, by simp [e, hp]⟩
  exact ⟨p, r, hp, rfl, index_one_hit hp⟩
 ·exact .inl ⟨h, index_one_none h⟩
theorem cut_none {c : UInt8} {p : List UInt8} (h : c ∉ p) : Lib.cut p [c] = (p, [], false) := by
 unfold Lib.cut
 rw [index_one_none h, if_neg (by decide)]
theorem cut_hit {c : UInt8} {p r : List UInt8} (h : c ∉ p) : Lib.cut (p ++ c :: r) [c] = (p, r, true) := by
 unfold Lib.cut
 rw [index_one_hit h, if_pos (by omega)]
 simp
theorem cut_true {c : UInt8} {l : List UInt8} (h : (Lib.cut l [c]).2.2 = true) : c ∉ (Lib.cut l [c]).1 ∧ l = (Lib.cut l [c]).1 ++ c :: (Lib.cut l [c]).2.1 := by
 rcases index_one_cases c l with ⟨h1, _⟩ | ⟨p, r, hp, rfl, _⟩
 ·rw [cut_none h1] at h; cases h
 ·rw [cut_hit hp]; exact ⟨hp, rfl⟩
def joinC (c : UInt8) : List (List UInt8) → List UInt8
 | [] => []
 | [p] => p
 | p :: q :: r => p ++ c :: joinC c (q :: r)
theorem joinC_cons (c : UInt8) (p : List UInt8) {r : List (List UInt8)} (h : r ≠ []) : joinC c (p :: r) = p ++ c :: joinC c r := by
 cases r with
 | nil => exact absurd rfl h
 | cons q r => rfl
theorem splitK_join (c : UInt8) : ∀ (k : Nat) (l : List UInt8), Lib.count l [c] = k → Lib.splitK [c] 0 k l ≠ [] ∧ joinC c (Lib.splitK [c] 0 k l) = l ∧ ∀ p ∈ Lib.splitK [c] 0 k l, c ∉ p
 | 0, l, h => by
  rw [Lib.splitK]
  refine ⟨by simp, rfl, fun p hp => ?_⟩
  obtain rfl := List.mem_singleton.1 hp
  rcases index_one_cases c p with ⟨h1, _⟩ | ⟨q, r, hq, e, hi⟩
  ·exact h1
  ·have := Lib.count_hit (s := p) (sub := [c]) (i := q.length) (by simp) hi
   omega
 | k + 1, l, h => by
  rcases index_one_cases c l with ⟨h1, h2⟩ | ⟨q, r, hq, rfl, hi⟩
  ·have := Lib.count_miss h2; omega
  ·have hc := Lib.count_hit (s := q ++ c :: r) (sub := [c]) (i := q.length) (by simp) hi
   have e : (q ++ c :: r).drop (q.length + 1) = r := by simp
   rw [show [c].length = 1 from rfl, e] at hc
   obtain ⟨h1, h2, h3⟩ := splitK_join c k r (by omega)
   rw [Lib.splitK, hi]
   have hm : (((q.length : Nat) : Int) == -1) = false := by rw [beq_eq_false_iff_ne]; omega
   rw [hm]
   simp only [Bool.false_eq_true, if_false, l14_, Nat.add_zero]
   rw [show [c].length = 1 from rfl, e, List.take_left]
   refine ⟨by simp, ?_, ?_⟩
   ·rw [joinC_cons c q h1, h2]
   ·intro p hp
    rcases List.mem_cons.1 hp with rfl | hp
    ·exact hq
    ·exact h3 p hp
theorem joinC_inj (c : UInt8) : ∀ {a b : List (List UInt8)}, a ≠ [] → b ≠ [] → (∀ p ∈ a, c ∉ p) → (∀ p ∈ b, c ∉ p) → joinC c a = joinC c b → a = b := by
 have cut2 : ∀ {p q r s : List UInt8}, c ∉ p → c ∉ q → p ++ c :: r = q ++ c :: s → p = q ∧ r = s := by
  intro p q r s hp hq h
  have h1 := cut_hit (r := r) hp
  rw [h, cut_hit hq] at h1
  simp only [Prod.mk.injEq, and_true] at h1
  exact ⟨h1.1.symm, h1.2.symm⟩
 intro a
 induction a with
 | nil => intro b h; exact absurd rfl h
 | cons p r ih =>
  intro b _ hb ha' hb' h
  cases b with
  | nil => exact absurd rfl hb
  | cons q s =>
   have hp := ha' p (l19_ ..)
   have hq := hb' q (l19_ ..)
   by_cases hr : r = []
   ·subst hr
    by_cases hs : s = []
    ·subst hs; simp only [joinC] at h; rw [h]
    ·rw [joinC_cons c q hs] at h
     simp only [joinC] at h
     rw [h] at hp
     exact absurd (by simp) hp
   ·rw [joinC_cons c p hr] at h
    by_cases hs : s = []
    ·subst hs
     simp only [joinC] at h
     rw [← h] at hq
     exact absurd (by simp) hq
    ·rw [joinC_cons c q hs] at h
     obtain ⟨rfl, h2⟩ := cut2 hp hq h
     rw [ih hr hs (fun p hp => ha' p (l20_ _ hp)) (fun p hp => hb' p (l20_ _ hp)) h2]
def chunksL (s : ByteArray) (c : UInt8) : List (List UInt8) := (chunks s c).map (·.data.toList)
theorem chunksL_spec (s : ByteArray) (c : UInt8) : chunksL s c ≠ [] ∧ joinC c (chunksL s c) = s.data.toList ∧ ∀ p ∈ chunksL s c, c ∉ p := by
 unfold chunksL chunks
 rw [Lib.splitB_data]
 exact splitK_join c _ _ rfl
theorem chunksL_iff {s : ByteArray} {c : UInt8} {ps : List (List UInt8)} (h0 : ps ≠ []) (h1 : ∀ p ∈ ps, c ∉ p) (h2 : joinC c ps = s.data.toList) : chunksL s c = ps := by
 obtain ⟨k0, k1, k2⟩ := chunksL_spec s c
 exact joinC_inj c k0 h0 k2 h1 (k1.trans h2.symm)
theorem bytes_ext {a b : ByteArray} (h : a.data.toList = b.data.toList) : a = b := by
 rcases a with ⟨⟨a⟩⟩; rcases b with ⟨⟨b⟩⟩; simp at h; rw [h]
theorem dg_one {n : Nat} (h : n < 10) : dg n = [UInt8.ofNat (48 + n)] := by unfold dg; rw [Lib.decDigits, dif_pos h]
theorem dg_big {n : Nat} (h : ¬ n < 10) : dg n = dg (n / 10) ++ [UInt8.ofNat (48 + n % 10)] := by unfold dg; rw [Lib.decDigits, dif_neg h]
theorem dg_ne (n : Nat) : dg n ≠ [] := by
 by_cases h : n < 10
 ·rw [dg_one h]; simp
 ·rw [dg_big h]; simp
theorem digs_of {d : Nat} (h : d < 10) : digs.contains (UInt8.ofNat (48 + d)) = true ∧ Lib.digitVal (UInt8.ofNat (48 + d)) = some d := by
 have : d = 0 ∨ d = 1 ∨ d = 2 ∨ d = 3 ∨ d = 4 ∨ d = 5 ∨ d = 6 ∨ d = 7 ∨ d = 8 ∨ d = 9 := by omega
 rcases this with rfl | rfl | rfl | rfl | rfl | rfl | rfl | rfl | rfl | rfl <;> exact ⟨by decide, by decide⟩
theorem digs_to {x : UInt8} (h : digs.contains x = true) : ∃ d, d < 10 ∧ x = UInt8.ofNat (48 + d) := by
 unfold digs at h
 simp only [List.contains_cons, List.contains_nil, Bool.or_false, Bool.or_eq_true, beq_iff_eq] at h
 rcases h with rfl | rfl | rfl | rfl | rfl | rfl | rfl | rfl | rfl | rfl
 ·exact ⟨0, by decide, rfl⟩
 ·exact ⟨1, by decide, rfl⟩
 ·exact ⟨2, by decide, rfl⟩
 ·exact ⟨3, by decide, rfl⟩
 ·exact ⟨4, by decide, rfl⟩
 ·exact ⟨5, by decide, rfl⟩
 ·exact ⟨6, by decide, rfl⟩
 ·exact ⟨7, by decide, rfl⟩
 ·exact ⟨8, by decide, rfl⟩
 ·exact ⟨9, by decide, rfl⟩
theorem dg_digs (n : Nat) : ∀ x ∈ dg n, digs.contains x = true := by
 induction n using Nat.strongRecOn with
 | ind n ih =>
  intro x hx
  by_cases h : n < 10
  ·rw [dg_one h] at hx
   obtain rfl := List.mem_singleton.1 hx
   exact (digs_of h).1
  ·rw [dg_big h] at hx
   rcases List.mem_append.1 hx with hx | hx
   ·exact ih (n / 10) (by omega) x hx
   ·obtain rfl := List.mem_singleton.1 hx
    exact (digs_of (Nat.mod_lt _ (by decide))).1
theorem dg_not {c : UInt8} (h : digs.contains c = false) (n : Nat) : c ∉ dg n := fun hm => by rw [dg_digs n c hm] at h; cases h
theorem dec_one {d : Nat} (h : d < 10) (acc : Nat) : Lib.decFrom acc [UInt8.ofNat (48 + d)] = some (acc * 10 + d) := by
 rw [Lib.decFrom, (digs_of h).2]; rfl
theorem decFrom_app (l : List UInt8) (x : UInt8) (d : Nat) (hx : Lib.digitVal x = some d) : ∀ acc n, Lib.decFrom acc l = some n → Lib.decFrom acc (l ++ [x]) = some (n * 10 + d) := by
 induction l with
 | nil => intro acc n h; simp only [Lib.decFrom, Option.some.injEq] at h; subst h; simp [Lib.decFrom, hx]
 | cons a t ih =>
  intro acc n h
  simp only [Lib.decFrom, List.cons_append] at h ⊢
  cases ha : Lib.digitVal a with
  | none => simp [ha] at h
  | some e => simp only [ha] at h ⊢; exact ih _ _ h
theorem dec_dg (n : Nat) : Lib.decFrom 0 (dg n) = some n := by
 induction n using Nat.strongRecOn with
 | ind n ih =>
  by_cases h : n < 10
  ·rw [dg_one h, dec_one h]; congr 1; omega
  ·rw [dg_big h, decFrom_app _ _ (n % 10) (digs_of (Nat.mod_lt _ (by decide))).2 0 (n / 10) (ih _ (by omega))]
   congr 1; omega
theorem dg_head {n : Nat} (h : 1 ≤ n) : (dg n).head? ≠ some 48 := by
 induction n using Nat.strongRecOn with
 | ind n ih =>
  by_cases h10 : n < 10
  ·rw [dg_one h10]
   have : n = 1 ∨ n = 2 ∨ n = 3 ∨ n = 4 ∨ n = 5 ∨ n = 6 ∨ n = 7 ∨ n = 8 ∨ n = 9 := by omega
   rcases this with rfl | rfl | rfl | rfl | rfl | rfl | rfl | rfl | rfl <;> decide
  ·rw [dg_big h10]
   have h1 := ih (n / 10) (by omega) (by omega)
   cases e : dg (n / 10) with
   | nil => exact absurd e (dg_ne _)
   | cons a t => rw [e] at h1; simpa using h1
theorem dg_length {n k : Nat} (hk : 1 ≤ k) (h : n < 10 ^ k) : (dg n).length ≤ k := by
 induction k generalizing n with
 | zero => omega
 | succ k ih =>
  by_cases h10 : n < 10
  ·rw [dg_one h10]; simp
  ·rw [dg_big h10, l7_]
   rw [Nat.pow_succ] at h
   have hk1 : 1 ≤ k := by
    rcases Nat.eq_zero_or_pos k with rfl | hk
    ·simp at h; omega
    ·exact hk
   have := ih hk1 (n := n / 10) (by omega)
   simp; omega
theorem dec_inv : ∀ (l : List UInt8), l ≠ [] → (∀ x ∈ l, digs.contains x = true) → l.head? ≠ some 48 → ∃ n, 1 ≤ n ∧ Lib.decFrom 0 l = some n ∧ dg n = l := by
 intro l
 generalize hk : l.length = k
 induction k generalizing l with
 | zero => intro h; exact absurd (List.length_eq_zero_iff.1 hk) h
 | succ k ih =>
  intro h0 hd hh
  obtain ⟨r, x, rfl⟩ : ∃ r x, l = r ++ [x] := ⟨l.dropLast, l.getLast h0, (List.dropLast_concat_getLast h0).symm⟩
  obtain ⟨d, hd10, rfl⟩ := digs_to (hd x (by simp))
  by_cases hr : r = []
  ·subst hr
   refine ⟨d, ?_, ?_, dg_one hd10⟩
   ·rcases Nat.eq_zero_or_pos d with rfl | h
    ·exact absurd rfl hh
    ·exact h
   ·rw [List.nil_append, dec_one hd10]; congr 1; omega
  ·obtain ⟨n, h1, h2, h3⟩ := ih r (by simpa using hk) hr (fun x hx => hd x (by simp [hx])) (by
    cases r with
    | nil => exact absurd rfl hr
    | cons a t => simpa using hh)
   refine ⟨n * 10 + d, by omega, decFrom_app _ _ d (digs_of hd10).2 0 n h2, ?_⟩
   rw [dg_big (by omega), show (n * 10 + d) / 10 = n by omega, show (n * 10 + d) % 10 = d by omega, h3]
theorem trimS_all {l : List UInt8} (h : ∀ x ∈ l, digs.contains x = true) : Lib.trimS l digs = [] := by
 have dw : ∀ l : List UInt8, (∀ x ∈ l, digs.contains x = true) → l.dropWhile (digs.contains ·) = [] := by
  intro l
  induction l with
  | nil => intro _; rfl
  | cons a t ih =>
   intro h
   rw [List.dropWhile_cons, if_pos (h a (l19_ ..))]
   exact ih fun x hx => h x (l20_ _ hx)
 unfold Lib.trimS Lib.trimLeftS Lib.trimRightS
 rw [dw l.reverse (fun x hx => h x (List.mem_reverse.1 hx))]
 rfl
theorem atoi_dg (n : Nat) : Lib.atoi (dg n) = some (n : Int) := by
 have hd := dec_dg n
 cases e : dg n with
 | nil => exact absurd e (dg_ne n)
 | cons a r =>
  obtain ⟨d, _, _, h45, h43⟩ := digit_val (dg_digs n a (by rw [e]; exact l19_ ..))
  rw [e] at hd
  rw [Lib.atoi, if_neg (by simpa using h45), if_neg (by simpa using h43)]
  unfold Lib.decNat
  rw [if_neg (by simp), hd]
  rfl
theorem num_dg {n : Nat} (h : n ≤ 1000000000) : numOk (dg n) = true ∧ num0V (dg n) = n := by
 have hb : numBad (dg n) = false := by
  unfold numBad
  rw [l3_ (dg_ne n), l3_ (by have := dg_length (n := n) (k := 10) (by decide) (by omega); omega), l2_ (trimS_all (dg_digs n))]
  by_cases h10 : n < 10
  ·rw [dg_one h10]; simp
  ·rw [l3_ (dg_head (show 1 ≤ n by omega))]; rfl
 have hv := numV_eq (atoi_dg n)
 obtain ⟨h1, h2⟩ := num_good hb
 exact ⟨by rw [h2, h1, hv]; exact l2_ (by omega), by rw [h1, hv]⟩
theorem num_inv {l : List UInt8} (h : numOk l = true) : ∃ n : Nat, n ≤ 1000000000 ∧ l = dg n ∧ num0V l = n := by
 have hb : numBad l = false := by
  unfold numOk at h
  simp only [l21_, Bool.not_eq_true'] at h
  exact h.1
 obtain ⟨n, hl⟩ : ∃ n, l = dg n := by
  have hb2 := hb
  unfold numBad at hb2
  simp only [Bool.or_eq_false_iff, decide_eq_false_iff_not, Bool.not_eq_false', l22_] at hb2
  obtain ⟨⟨⟨h1, h2⟩, h3⟩, h4⟩ := hb2
  have hall := trimS_nil h4
  by_cases hh : l.head? = some 48
  ·have hlen : ¬ 1 < l.length := by
    intro hc
    rw [l2_ hh, l2_ hc] at h3
    cases h3
   cases l with
   | nil => exact absurd rfl h1
   | cons a r =>
    have : r = [] := by cases r with | nil => rfl | cons b r => simp at hlen
    subst this
    simp at hh
    subst hh
    exact ⟨0, by rw [dg_one (by decide)]; rfl⟩
  ·obtain ⟨n, _, _, e⟩ := dec_inv l h1 hall hh
   exact ⟨n, e.symm⟩
 subst hl
 obtain ⟨h1, h2⟩ := num_good hb
 have hv := numV_eq (atoi_dg n)
 rw [h1, hv] at h2
 rw [h2] at h
 exact ⟨n, by have := l0_ h; omega, rfl, by rw [h1, hv]⟩
theorem hp_app (p l : List UInt8) : Lib.hasPrefix (p ++ l) p = true := by
 unfold Lib.hasPrefix
 exact List.isPrefixOf_iff_prefix.2 (List.prefix_append p l)
theorem hp_split {l p : List UInt8} (h : Lib.hasPrefix l p = true) : l = p ++ l.drop p.length := by
 unfold Lib.hasPrefix at h
 obtain ⟨r, rfl⟩ := List.isPrefixOf_iff_prefix.1 h
 simp
theorem hp_one {a c : UInt8} {l : List UInt8} : Lib.hasPrefix (a :: l) [c] = decide (c = a) := by
 unfold Lib.hasPrefix
 simp [List.isPrefixOf]
 by_cases h : c = a <;> simp [h]
theorem srtP_sound (n : Nat) : ∀ (acc : List S47) (l : List UInt8) (s : S47) (r : List UInt8), srtP n acc l = some (s, r) → ∃ a, s = ⟨acc ++ a⟩ ∧ l = srtSL a ++ 111 :: r ∧ Lib.hasPrefix r [32, 62, 32] = false := by
 induction n with
 | zero => intro acc l s r h; simp [srtP] at h
 | succ n ih =>
  intro acc l s r h
  rw [srtP] at h
  cases q : Lib.hasPrefix l [40] with
  | true =>
   rw [q, if_pos rfl] at h
   obtain ⟨⟨s1, r1⟩, h1, h⟩ := Option.bind_eq_some_iff.1 h
   obtain ⟨a1, rfl, e1, _⟩ := ih _ _ _ _ h1
   simp only [List.nil_append] at h
   by_cases hz : a1.length = 0
   ·rw [if_pos hz] at h; cases h
   ·rw [if_neg hz] at h
    cases q3 : Lib.hasPrefix r1 [41, 32, 62, 32] with
    | false => rw [q3] at h; simp at h
    | true =>
     rw [q3, if_pos rfl] at h
     obtain ⟨a2, rfl, e2, hr⟩ := ih _ _ _ _ h
     refine ⟨⟨a1⟩ :: a2, by simp, ?_, hr⟩
     have e0 := hp_split q
     have e3 := hp_split q3
     simp only [l8_, List.length_nil] at e0 e3
     rw [e0, e1, e3, show (0 + 1 + 1 + 1 + 1) = 4 from rfl, e2, srtSL, wrapS, srtS, if_neg hz]
     simp
  | false =>
   rw [q] at h
   simp only [Bool.false_eq_true, if_false] at h
   cases q2 : Lib.hasPrefix l [111] with
   | false => rw [q2] at h; simp at h
   | true =>
    rw [q2, if_pos rfl] at h
    have e0 := hp_split q2
    simp only [l8_, List.length_nil] at e0
    cases q3 : Lib.hasPrefix (l.drop 1) [32, 62, 32] with
    | true =>
     rw [q3, if_pos rfl] at h
     obtain ⟨a2, rfl, e2, hr⟩ := ih _ _ _ _ h
     refine ⟨⟨[]⟩ :: a2, by simp, ?_, hr⟩
     have e3 := hp_split q3
     simp only [l8_, List.length_nil] at e3
     rw [e0, show (0 + 1) = 1 from rfl, e3, show (0 + 1 + 1 + 1) = 3 from rfl, e2, srtSL, wrapS, srtS, srtSL, if_pos (show (S47.mk []).f0.length = 0 from rfl)]
     simp
    | false =>
     rw [q3] at h
     simp only [Bool.false_eq_true, if_false, Option.some.injEq, Prod.mk.injEq] at h
     obtain ⟨rfl, rfl⟩ := h
     exact ⟨[], by simp, by rw [srtSL]; exact e0, q3⟩
theorem srtP_full (n : Nat) : ∀ (a acc : List S47) (r : List UInt8), Lib.hasPrefix r [32, 62, 32] = false → (srtSL a ++ 111 :: r).length < n → srtP n acc (srtSL a ++ 111 :: r) = some (⟨acc ++ a⟩, r) := by
 induction n with
 | zero => intro a acc r _ h; omega
 | succ n ih =>
  intro a acc r hr hn
  cases a with
  | nil =>
   rw [srtSL, List.nil_append, srtP, hp_one, hp_one, if_neg (by decide), if_pos (by decide)]
   simp only [List.drop_succ_cons, List.drop_zero]
   rw [hr]
   simp
  | cons x a2 =>
   obtain ⟨b⟩ := x
   rw [srtSL, wrapS, srtS] at hn ⊢
   cases b with
   | nil =>
    rw [if_pos (show (S47.mk []).f0.length = 0 from rfl), srtSL] at hn ⊢
    rw [show ([] ++ [111] ++ (32 :: 62 :: 32 :: srtSL a2) ++ 111 :: r : List UInt8) = 111 :: ([32, 62, 32] ++ (srtSL a2 ++ 111 :: r)) by simp] at hn ⊢
    rw [srtP, hp_one, hp_one, if_neg (by decide), if_pos (by decide)]
    simp only [List.drop_succ_cons, List.drop_zero]
    rw [hp_app, if_pos rfl, show ([32, 62, 32] ++ (srtSL a2 ++ 111 :: r) : List UInt8).drop 3 = srtSL a2 ++ 111 :: r from rfl, ih a2 _ r hr (by simp only [l8_, l7_] at hn ⊢; omega)]
    simp
   | cons y b2 =>
    rw [if_neg (by simp)] at hn ⊢
    rw [show (40 :: (srtSL (y :: b2) ++ [111] ++ [41]) ++ (32 :: 62 :: 32 :: srtSL a2) ++ 111 :: r : List UInt8) = 40 :: (srtSL (y :: b2) ++ 111 :: ([41, 32, 62, 32] ++ (srtSL a2 ++ 111 :: r))) by simp] at hn ⊢
    rw [srtP, hp_one, if_pos (by decide)]
    simp only [List.drop_succ_cons, List.drop_zero]
    rw [ih (y :: b2) [] ([41, 32, 62, 32] ++ (srtSL a2 ++ 111 :: r)) rfl (by simp only [l8_] at hn ⊢; omega)]
    simp only [l23_, List.nil_append]
    rw [if_neg (by simp), hp_app, if_pos rfl, show ([41, 32, 62, 32] ++ (srtSL a2 ++ 111 :: r) : List UInt8).drop 4 = srtSL a2 ++ 111 :: r from rfl, ih a2 _ r hr (by simp only [l8_, l7_] at hn ⊢; omega)]
    simp
theorem srtR_sound {l : List UInt8} {s : S47} {r : List UInt8} (h : srtR [] l = some (s, r)) : l = srtS s ++ r ∧ Lib.hasPrefix r [32, 62, 32] = false := by
 obtain ⟨a, rfl, e, hr⟩ := srtP_sound _ _ _ _ _ h
 refine ⟨?_, hr⟩
 rw [e, List.nil_append, srtS]; simp
theorem srtR_full (s : S47) {r : List UInt8} (h : Lib.hasPrefix r [32, 62, 32] = false) : srtR [] (srtS s ++ r) = some (s, r) := by
 obtain ⟨a⟩ := s
 rw [srtS, show srtSL a ++ [111] ++ r = srtSL a ++ 111 :: r by simp]
 exact srtP_full _ a [] r h (Nat.lt_succ_self _)
def sch (x : UInt8) : Bool := decide (x = 111) || decide (x = 32) || decide (x = 62) || decide (x = 40) || decide (x = 41)
theorem srtS_chars_aux (n : Nat) : ∀ t : S47, sN t ≤ n → ∀ x ∈ srtS t, sch x = true := by
 induction n with
 | zero => intro t h; have := sN_pos t; omega
 | succ n ih =>
  intro t h
  obtain ⟨l⟩ := t
  rw [sN] at h
  have : ∀ l : List S47, sNL l ≤ n → ∀ x ∈ srtSL l, sch x = true := by
   intro l
   induction l with
   | nil => intro _ x hx; simp [srtSL] at hx
   | cons a r ihr =>
    intro h x hx
    rw [sNL] at h
    rw [srtSL, List.mem_append] at hx
    have h1 := ih a (by omega)
    have h2 := ihr (by omega)
    rcases hx with hx | hx
    ·unfold wrapS at hx
     split at hx
     ·exact h1 x hx
     ·simp only [List.mem_cons, List.mem_append, List.mem_nil_iff, or_false] at hx
      rcases hx with rfl | hx | rfl
      ·rfl
      ·exact h1 x hx
      ·rfl
    ·simp only [List.mem_cons] at hx
     rcases hx with rfl | rfl | rfl | hx
     ·rfl
     ·rfl
     ·rfl
     ·exact h2 x hx
  intro x hx
  rw [srtS, List.mem_append] at hx
  rcases hx with hx | hx
  ·exact this l (by omega) x hx
  ·obtain rfl := List.mem_singleton.1 hx; rfl
theorem srtS_chars (t : S47) : ∀ x ∈ srtS t, sch x = true := srtS_chars_aux _ t (Nat.le_refl _)
def tmG (hd : List UInt8 → Option ((Int × Int) × List UInt8)) : Nat → Int × Int → List S50 → List UInt8 → Option (S50 × List UInt8)
 | 0, _, _, _ => none
 | n + 1, kn, acc, l =>
  if Lib.hasPrefix l [32] = true then
   (if Lib.hasPrefix (l.drop 1) [40] = true then
    (hd ((l.drop 1).drop 1)).bind fun p => (tmG hd n p.1 [] p.2).bind fun q =>
     if q.1.f2.length = 0 then none else if Lib.hasPrefix q.2 [41] = true then tmG hd n kn (acc ++ [q.1]) (q.2.drop 1) else none
   else (hd (l.drop 1)).bind fun p => tmG hd n kn (acc ++ [⟨p.1.1, p.1.2, []⟩]) p.2)
  else some (⟨kn.1, kn.2, acc⟩, l)
theorem tmP_tmG (e1 e2 : Ents) (n : Nat) : ∀ (kn : Int × Int) (acc : List S50) (l : List UInt8), tmP e1 e2 n kn acc l = tmG (hdR e1 e2) n kn acc l := by
 induction n with
 | zero => intro kn acc l; rfl
 | succ n ih =>
  intro kn acc l
  rw [tmP, tmG]
  simp only [ih]
mutual
def tAll (ok : Int → Int → Bool) : S50 → Bool
 | ⟨k, n, l⟩ => ok k n && tAllL ok l
def tAllL (ok : Int → Int → Bool) : List S50 → Bool
 | [] => true
 | a :: r => tAll ok a && tAllL ok r
end
structure HdG (hd : List UInt8 → Option ((Int × Int) × List UInt8)) (hs : Int → Int → List UInt8) (ok : Int → Int → Bool) (D : List UInt8 → Prop) : Prop where
 sound : ∀ l k n r, hd l = some ((k, n), r) → l = hs k n ++ r ∧ ok k n = true
 full : ∀ k n r, ok k n = true → D r → hd (hs k n ++ r) = some ((k, n), r)
 ne : ∀ k n, ok k n = true → 1 ≤ (hs k n).length ∧ (hs k n).head? ≠ some 40
 d32 : ∀ r, D (32 :: r)
 d41 : ∀ r, D (41 :: r)
theorem tmG_sound {hd : List UInt8 → Option ((Int × Int) × List UInt8)} {hs : Int → Int → List UInt8} {ok : Int → Int → Bool} {D : List UInt8 → Prop} (H : HdG hd hs ok D) (n : Nat) :
  ∀ (kn : Int × Int) (acc : List S50) (l : List UInt8) (t : S50) (r : List UInt8), tmG hd n kn acc l = some (t, r) → ∃ a, t = ⟨kn.1, kn.2, acc ++ a⟩ ∧ l = trmSL hs a ++ r ∧ tAllL ok a = true ∧ Lib.hasPrefix r [32] = false := by
 induction n with
 | zero => intro kn acc l t r h; simp [tmG] at h
 | succ n ih =>
  intro kn acc l t r h
  rw [tmG] at h
  by_cases q : Lib.hasPrefix l [32] = true
  ·rw [if_pos q] at h
   have e0 := hp_split q
   simp only [l8_, List.length_nil] at e0
   by_cases q2 : Lib.hasPrefix (l.drop 1) [40] = true
   ·rw [if_pos q2] at h
    have e1 := hp_split q2
    simp only [l8_, List.length_nil] at e1
    obtain ⟨⟨⟨k, m⟩, r1⟩, h1, h⟩ := Option.bind_eq_some_iff.1 h
    obtain ⟨⟨t1, r2⟩, h2, h⟩ := Option.bind_eq_some_iff.1 h
    obtain ⟨hx, hok⟩ := H.sound _ _ _ _ h1
    obtain ⟨a1, rfl, e2, ha, _⟩ := ih _ _ _ _ _ h2
    simp only at e2
    simp only [List.nil_append] at h
    by_cases hz : a1.length = 0
    ·rw [if_pos hz] at h; cases h
    ·rw [if_neg hz] at h
     by_cases q3 : Lib.hasPrefix r2 [41] = true
     ·rw [if_pos q3] at h
      have e3 := hp_split q3
      simp only [l8_, List.length_nil] at e3
      obtain ⟨a2, rfl, e4, ha2, hr⟩ := ih _ _ _ _ _ h
      refine ⟨⟨k, m, a1⟩ :: a2, by simp, ?_, by rw [tAllL, tAll, hok, ha, ha2]; rfl, hr⟩
      rw [e0, show (0 + 1) = 1 from rfl, e1, show (0 + 1) = 1 from rfl, hx, e2, e3, show (0 + 1) = 1 from rfl, e4, trmSL, wrapT, trmS, if_neg hz]
      simp
     ·rw [if_neg q3] at h; cases h
   ·rw [if_neg q2] at h
    obtain ⟨⟨⟨k, m⟩, r1⟩, h1, h⟩ := Option.bind_eq_some_iff.1 h
    obtain ⟨hx, hok⟩ := H.sound _ _ _ _ h1
    obtain ⟨a2, rfl, e4, ha2, hr⟩ := ih _ _ _ _ _ h
    simp only at e4
    refine ⟨⟨k, m, []⟩ :: a2, by simp, ?_, by rw [tAllL, tAll, hok, tAllL, ha2]; rfl, hr⟩
    rw [e0, show (0 + 1) = 1 from rfl, hx, e4, trmSL, wrapT, trmS, trmSL, if_pos (show (S50.mk k m []).f2.length = 0 from rfl)]
    simp
  ·rw [if_neg q] at h
   simp only [Option.some.injEq, Prod.mk.injEq] at h
   obtain ⟨rfl, rfl⟩ := h
   exact ⟨[], by simp, by simp [trmSL], rfl, by simpa using q⟩
theorem tmG_full {hd : List UInt8 → Option ((Int × Int) × List UInt8)} {hs : Int → Int → List UInt8} {ok : Int → Int → Bool} {D : List UInt8 → Prop} (H : HdG hd hs ok D) (n : Nat) :
  ∀ (a : List S50) (kn : Int × Int) (acc : List S50) (r : List UInt8), tAllL ok a = true → Lib.hasPrefix r [32] = false → D r → (trmSL hs a ++ r).length < n → tmG hd n kn acc (trmSL hs a ++ r) = some (⟨kn.1, kn.2, acc ++ a⟩, r) := by
 induction n with
 | zero => intro a kn acc r _ _ _ h; omega
 | succ n ih =>
  intro a kn acc r ha hr hD hn
  have dnext : ∀ a2, D (trmSL hs a2 ++ r) := by
   intro a2
   cases a2 with
   | nil => rw [trmSL]; exact hD
   | cons x a2 => rw [trmSL]; exact H.d32 _
  cases a with
  | nil =>
   rw [trmSL, List.nil_append, tmG, if_neg (by rw [hr]; exact l16_)]
   simp
  | cons x a2 =>
   obtain ⟨k, m, b⟩ := x
   rw [tAllL, tAll, l21_, l21_] at ha
   obtain ⟨⟨hok, hb⟩, ha2⟩ := ha
   obtain ⟨hl, hh⟩ := H.ne k m hok
   rw [trmSL, wrapT, trmS] at hn ⊢
   cases b with
   | nil =>
    rw [if_pos (show (S50.mk k m []).f2.length = 0 from rfl), trmSL] at hn ⊢
    rw [show (32 :: (hs k m ++ [] ++ trmSL hs a2) ++ r : List UInt8) = 32 :: (hs k m ++ (trmSL hs a2 ++ r)) by simp] at hn ⊢
    have h40 : Lib.hasPrefix (hs k m ++ (trmSL hs a2 ++ r)) [40] = false := by
     cases e : hs k m with
     | nil => rw [e] at hl; simp at hl
     | cons c u =>
      rw [e] at hh
      simp only [List.head?_cons, ne_eq, Option.some.injEq] at hh
      rw [List.cons_append, hp_one, l3_ (Ne.symm hh)]
    rw [tmG, hp_one, if_pos (by decide)]
    simp only [List.drop_succ_cons, List.drop_zero]
    rw [h40, if_neg (by decide), H.full k m _ hok (dnext a2)]
    simp only [l23_]
    rw [ih a2 kn _ r ha2 hr hD (by simp only [l8_, l7_] at hn ⊢; omega)]
    simp
   | cons y b2 =>
    rw [if_neg (by simp)] at hn ⊢
    rw [show (32 :: (40 :: (hs k m ++ trmSL hs (y :: b2) ++ [41]) ++ trmSL hs a2) ++ r : List UInt8) = 32 :: 40 :: (hs k m ++ (trmSL hs (y :: b2) ++ 41 :: (trmSL hs a2 ++ r))) by simp] at hn ⊢
    rw [tmG, hp_one, if_pos (by decide)]
    simp only [List.drop_succ_cons, List.drop_zero]
    rw [hp_one, if_pos (by decide), H.full k m _ hok (by rw [trmSL]; exact H.d32 _)]
    simp only [l23_]
    rw [ih (y :: b2) (k, m) [] (41 :: (trmSL hs a2 ++ r)) hb (by rw [hp_one]; decide) (H.d41 _) (by simp only [l8_, l7_] at hn ⊢; omega)]
    simp only [l23_, List.nil_append]
    rw [if_neg (by simp), hp_one, if_pos (by decide), List.drop_succ_cons, List.drop_zero, ih a2 kn _ r ha2 hr hD (by simp only [l8_, l7_] at hn ⊢; omega)]
    simp
def tmRG (hd : List UInt8 → Option ((Int × Int) × List UInt8)) (l : List UInt8) : Option (S50 × List UInt8) := (hd l).bind fun p => tmG hd (p.2.length + 1) p.1 [] p.2
theorem tmR_tmRG (e1 e2 : Ents) (l : List UInt8) : tmR e1 e2 l = tmRG (hdR e1 e2) l := by
 unfold tmR tmRG tmA
 simp only [tmP_tmG]
theorem tmRG_sound {hd : List UInt8 → Option ((Int × Int) × List UInt8)} {hs : Int → Int → List UInt8} {ok : Int → Int → Bool} {D : List UInt8 → Prop} (H : HdG hd hs ok D) {l : List UInt8} {t : S50} {r : List UInt8} (h : tmRG hd l = some (t, r)) :
  l = trmS hs t ++ r ∧ tAll ok t = true ∧ Lib.hasPrefix r [32] = false := by
 unfold tmRG at h
 obtain ⟨⟨⟨k, m⟩, r1⟩, h1, h⟩ := Option.bind_eq_some_iff.1 h
 obtain ⟨hx, hok⟩ := H.sound _ _ _ _ h1
 obtain ⟨a, rfl, e, ha, hr⟩ := tmG_sound H _ _ _ _ _ _ h
 simp only [List.nil_append] at e ⊢
 exact ⟨by rw [hx, e, trmS]; simp, by rw [tAll, hok, ha]; rfl, hr⟩
theorem tmRG_full {hd : List UInt8 → Option ((Int × Int) × List UInt8)} {hs : Int → Int → List UInt8} {ok : Int → Int → Bool} {D : List UInt8 → Prop} (H : HdG hd hs ok D) {t : S50} {r : List UInt8} (ht : tAll ok t = true) (hr : Lib.hasPrefix r [32] = false) (hD : D r) :
  tmRG hd (trmS hs t ++ r) = some (t, r) := by
 obtain ⟨k, m, a⟩ := t
 rw [tAll, l21_] at ht
 unfold tmRG
 rw [trmS, List.append_assoc, H.full k m _ ht.1 (by
  cases a with
  | nil => rw [trmSL]; exact hD
  | cons x a2 => rw [trmSL]; exact H.d32 _)]
 simp only [l23_]
 rw [tmG_full H _ a (k, m) [] r ht.2 hr hD (Nat.lt_succ_self _)]
 simp
instance lawfulBA : LawfulBEq ByteArray where
 eq_of_beq {a b} h := by
  rcases a with ⟨a⟩
  rcases b with ⟨b⟩
  have h2 : (a == b) = true := h
  rw [eq_of_beq h2]
 rfl {a} := by
  rcases a with ⟨a⟩
  exact beq_self_eq_true a
theorem mget_nmE_aux (n : Nat) : ∀ (l : List ByteArray), l.length = n → ∀ x, mget x (nmE l) = if x ∈ l then some (l.idxOf x : Int) else none := by
 induction n with
 | zero =>
  intro l hl x
  obtain rfl := List.eq_nil_of_length_eq_zero hl
  rfl
 | succ n ih =>
  intro l hl x
  have hne : l ≠ [] := by rintro rfl; simp at hl
  obtain ⟨m, y, rfl⟩ : ∃ m y, l = m ++ [y] := ⟨l.dropLast, l.getLast hne, (List.dropLast_concat_getLast hne).symm⟩
  have hm : m.length = n := by simpa using hl
  have ihx := ih m hm
  rw [nmE_snoc, ihx y]
  have happ : ∀ (es : Ents) (p : ByteArray × Int), mget x (es ++ [p]) = (mget x es).or (if p.1 = x then some p.2 else none) := by
   intro es p
   unfold mget
   rw [List.find?_append, Option.map_or]
   congr 1
   by_cases h : p.1 = x <;> simp [h]
  by_cases hy : y ∈ m
  ·rw [if_pos hy, if_neg (by simp), ihx x]
   by_cases hx : x ∈ m
   ·rw [if_pos hx, if_pos (by simp [hx]), List.idxOf_append, if_pos hx]
   ·rw [if_neg hx, if_neg (by
     simp only [List.mem_append, List.mem_singleton, not_or]
     exact ⟨hx, fun e => hx (e ▸ hy)⟩)]
  ·rw [if_neg hy, if_pos rfl, happ, ihx x]
   by_cases hx : x ∈ m
   ·rw [if_pos hx, if_pos (show x ∈ m ++ [y] by simp [hx]), List.idxOf_append, if_pos hx]; rfl
   ·rw [if_neg hx, Option.none_or]
    by_cases e : y = x
    ·subst e
     rw [if_pos rfl, if_pos (by simp), List.idxOf_append, if_neg hx]
     simp
    ·rw [if_neg e, if_neg (by simp only [List.mem_append, List.mem_singleton, not_or]; exact ⟨hx, fun e2 => e e2.symm⟩)]
theorem mget_nmE (x : ByteArray) (l : List ByteArray) : mget x (nmE l) = if x ∈ l then some (l.idxOf x : Int) else none := mget_nmE_aux _ l rfl x
theorem idxOf_at {l : List ByteArray} {x : ByteArray} (h : x ∈ l) : l[l.idxOf x]? = some x := by
 have h1 := List.idxOf_lt_length_of_mem h
 rw [l17_ h1, List.getElem_idxOf h1]
def dlm (r : List UInt8) : Prop := r = [] ∨ ∃ c u, r = c :: u ∧ (c = 32 ∨ c = 40 ∨ c = 41)
theorem indexAny_hit {x : List UInt8} (hx : ∀ c ∈ x, c ≠ 32 ∧ c ≠ 40 ∧ c ≠ 41) (u : List UInt8) (c : UInt8) (hc : c = 32 ∨ c = 40 ∨ c = 41) : Lib.indexAny (x ++ c :: u) [32, 40, 41] = x.length := by
 induction x with
 | nil => rw [List.nil_append]; unfold Lib.indexAny; rcases hc with rfl | rfl | rfl <;> simp
 | cons a r ih =>
  obtain ⟨h1, h2, h3⟩ := hx a (l19_ ..)
  have ih := ih (fun c hc => hx c (l20_ _ hc))
  rw [List.cons_append]
  unfold Lib.indexAny
  rw [ih]
  have e : ([32, 40, 41] : List UInt8).contains a = false := by simp [h1, h2, h3]
  have e2 : (((r.length : Nat) : Int) == -1) = false := by rw [beq_eq_false_iff_ne]; omega
  simp [e, e2, h1, h2, h3]
theorem indexAny_none {x : List UInt8} (hx : ∀ c ∈ x, c ≠ 32 ∧ c ≠ 40 ∧ c ≠ 41) : Lib.indexAny x [32, 40, 41] = -1 := by
 induction x with
 | nil => rfl
 | cons a r ih =>
  obtain ⟨h1, h2, h3⟩ := hx a (l19_ ..)
  have ih := ih (fun c hc => hx c (l20_ _ hc))
  unfold Lib.indexAny
  rw [ih]
  simp [h1, h2, h3]
theorem wordN_app {x : List UInt8} (hx : ∀ c ∈ x, c ≠ 32 ∧ c ≠ 40 ∧ c ≠ 41) {r : List UInt8} (hr : dlm r) : wordN (x ++ r) = x.length := by
 unfold wordN
 rcases hr with rfl | ⟨c, u, rfl, hc⟩
 ·rw [List.append_nil, indexAny_none hx, if_pos (by decide)]
 ·rw [indexAny_hit hx u c hc, if_neg (by omega)]; rfl
def dch (c : UInt8) : Bool := digs.contains c
theorem dch_wch {c : UInt8} (h : dch c = true) : wch c = true := by
 obtain ⟨d, hd, rfl⟩ := digs_to h
 have : d = 0 ∨ d = 1 ∨ d = 2 ∨ d = 3 ∨ d = 4 ∨ d = 5 ∨ d = 6 ∨ d = 7 ∨ d = 8 ∨ d = 9 := by omega
 rcases this with rfl | rfl | rfl | rfl | rfl | rfl | rfl | rfl | rfl | rfl <;> decide
theorem wch_ne {c : UInt8} (h : wch c = true) : c ≠ 32 ∧ c ≠ 40 ∧ c ≠ 41 ∧ c ≠ 10 ∧ c ≠ 35 ∧ c ≠ 36 ∧ c ≠ 58 ∧ c ≠ 61 := by
 refine ⟨?_, ?_, ?_, ?_, ?_, ?_, ?_, ?_⟩ <;> (rintro rfl; revert h; decide)
theorem nameB_wch {s : ByteArray} (h : nameB s = true) : ∀ c ∈ s.data.toList, wch c = true := by
 unfold nameB nameL at h
 simp only [l21_] at h
 exact List.all_eq_true.1 h.2
theorem nameB_ne {s : ByteArray} (h : nameB s = true) : s.data.toList ≠ [] := by
 unfold nameB nameL at h
 simp only [l21_, l22_] at h
 intro e
 rw [e] at h
 simp at h
theorem nameB_head {s : ByteArray} (h : nameB s = true) : ∃ c u, s.data.toList = c :: u ∧ wch c = true := by
 cases e : s.data.toList with
 | nil => exact absurd e (nameB_ne h)
 | cons c u => exact ⟨c, u, rfl, nameB_wch h c (by rw [e]; exact l19_ ..)⟩
def hsN (a b : List ByteArray) (k n : Int) : List UInt8 := if k = 0 then 36 :: dg n.toNat else if k = 1 then (b.getD n.toNat ByteArray.empty).data.toList else 35 :: (a.getD n.toNat ByteArray.empty).data.toList
def okAt (l : List ByteArray) (n : Int) : Bool := decide (0 ≤ n) && decide (n.toNat < l.length) && decide (l.idxOf (l.getD n.toNat ByteArray.empty) = n.toNat) && nameB (l.getD n.toNat ByteArray.empty)
def hsOk (a b : List ByteArray) (k n : Int) : Bool := if k = 0 then decide (0 ≤ n) && decide (n ≤ 1000000000) else if k = 1 then okAt b n else if k = 2 then okAt a n else false
theorem okAt_of {l : List ByteArray} {x : ByteArray} (h : x ∈ l) (hn : nameB x = true) : okAt l (l.idxOf x : Int) = true ∧ l.getD (l.idxOf x : Int).toNat ByteArray.empty = x := by
 have h1 := List.idxOf_lt_length_of_mem h
 have h2 := idxOf_at h
 have h3 : l.getD (l.idxOf x) ByteArray.empty = x := by rw [l18_, h2]; rfl
 refine ⟨?_, by rw [l14_]; exact h3⟩
 unfold okAt
 rw [l14_, h3, hn]
 simp [h1]
theorem okAt_to {l : List ByteArray} {n : Int} (h : okAt l n = true) : ∃ x, l.getD n.toNat ByteArray.empty = x ∧ x ∈ l ∧ (l.idxOf x : Int) = n ∧ nameB x = true := by
 unfold okAt at h
 simp only [l21_, l22_] at h
 obtain ⟨⟨⟨h1, h2⟩, h3⟩, h4⟩ := h
 refine ⟨_, rfl, ?_, by rw [h3]; omega, h4⟩
 rw [l18_, l17_ h2]
 exact l11_ h2
theorem hs_chars {a b : List ByteArray} {k n : Int} (h : hsOk a b k n = true) : ∃ c u, hsN a b k n = c :: u ∧ (c = 36 ∨ c = 35 ∨ wch c = true) ∧ ∀ x ∈ u, wch x = true := by
 unfold hsOk at h
 unfold hsN
 by_cases h0 : k = 0
 ·rw [if_pos h0] at h ⊢
  exact ⟨36, _, rfl, .inl rfl, fun x hx => dch_wch (dg_digs _ x hx)⟩
 ·rw [if_neg h0] at h ⊢
  by_cases h1 : k = 1
  ·rw [if_pos h1] at h ⊢
   obtain ⟨x, e, _, _, hn⟩ := okAt_to h
   rw [e]
   obtain ⟨c, u, e2, hc⟩ := nameB_head hn
   exact ⟨c, u, e2, .inr (.inr hc), fun y hy => nameB_wch hn y (by rw [e2]; exact l20_ _ hy)⟩
  ·rw [if_neg h1] at h ⊢
   by_cases h2 : k = 2
   ·rw [if_pos h2] at h
    obtain ⟨x, e, _, _, hn⟩ := okAt_to h
    rw [e]
    exact ⟨35, _, rfl, .inr (.inl rfl), nameB_wch hn⟩
   ·rw [if_neg h2] at h; cases h
theorem hs_plain {a b : List ByteArray} {k n : Int} (h : hsOk a b k n = true) : ∀ x ∈ hsN a b k n, x ≠ 32 ∧ x ≠ 40 ∧ x ≠ 41 ∧ x ≠ 10 := by
 obtain ⟨c, u, e, hc, hu⟩ := hs_chars h
 intro x hx
 rw [e] at hx
 rcases List.mem_cons.1 hx with rfl | hx
 ·rcases hc with rfl | rfl | hc
  ·decide
  ·decide
  ·have := wch_ne hc; exact ⟨this.1, this.2.1, this.2.2.1, this.2.2.2.1⟩
 ·have := wch_ne (hu x hx); exact ⟨this.1, this.2.1, this.2.2.1, this.2.2.2.1⟩
theorem hs_ne {a b : List ByteArray} {k n : Int} (h : hsOk a b k n = true) : 1 ≤ (hsN a b k n).length ∧ (hsN a b k n).head? ≠ some 40 := by
 obtain ⟨c, u, e, _⟩ := hs_chars h
 refine ⟨by rw [e]; simp, fun h2 => ?_⟩
 rw [e] at h2
 have hc : c = 40 := by simpa using h2
 exact (hs_plain h c (by rw [e]; exact l19_ ..)).2.1 hc
theorem hp_cons_ne {a c : UInt8} {l : List UInt8} (h : a ≠ c) : Lib.hasPrefix (a :: l) [c] = false := by rw [hp_one, l3_ (Ne.symm h)]
theorem ba_list (s : ByteArray) : (⟨s.data.toList.toArray⟩ : ByteArray) = s := bytes_ext rfl
theorem hdR_G (a b : List ByteArray) : HdG (hdR (nmE a) (nmE b)) (hsN a b) (hsOk a b) dlm := by
 refine ⟨?_, ?_, fun k n h => hs_ne h, fun r => .inr ⟨32, r, rfl, .inl rfl⟩, fun r => .inr ⟨41, r, rfl, .inr (.inr rfl)⟩⟩
 ·intro l k n r h
  have hl : l = l.take (wordN l) ++ l.drop (wordN l) := (List.take_append_drop _ _).symm
  unfold hdR at h
  generalize l.take (wordN l) = w at *
  generalize l.drop (wordN l) = rest at *
  unfold hdW at h
  by_cases q : Lib.hasPrefix w [36] = true
  ·rw [if_pos q] at h
   have e := hp_split q
   simp only [l8_, List.length_nil] at e
   have et : Lib.trimPrefix w [36] = w.drop 1 := by unfold Lib.trimPrefix; rw [if_pos q]; rfl
   rw [et] at h
   split at h
   ·rename_i hok
    obtain ⟨m, hm, e1, e2⟩ := num_inv hok
    simp only [Option.some.injEq, Prod.mk.injEq] at h
    obtain ⟨⟨rfl, rfl⟩, rfl⟩ := h
    rw [e2]
    refine ⟨?_, ?_⟩
    ·rw [hl]
     unfold hsN
     rw [if_pos rfl, l14_, ← e1]
     conv => lhs; rw [e]
     simp
    ·unfold hsOk; rw [if_pos rfl]; simp; omega
   ·cases h
  ·rw [if_neg q] at h
   by_cases q2 : Lib.hasPrefix w [35] = true
   ·have e := hp_split q2
    simp only [l8_, List.length_nil] at e
    have et : Lib.trimPrefix w [35] = w.drop 1 := by unfold Lib.trimPrefix; rw [if_pos q2]; rfl
    rw [et, if_pos q2, if_pos q2, mget_nmE] at h
    by_cases hm : (⟨(w.drop 1).toArray⟩ : ByteArray) ∈ a
    ·rw [if_pos hm] at h
     simp only at h
     split at h
     ·rename_i hn
      obtain ⟨h1, h2⟩ := okAt_of hm hn
      simp only [Option.some.injEq, Prod.mk.injEq] at h
      obtain ⟨⟨rfl, rfl⟩, rfl⟩ := h
      refine ⟨?_, ?_⟩
      ·rw [hl]
       unfold hsN
       rw [if_neg (by decide), if_neg (by decide), h2]
       conv => lhs; rw [e]
       simp
      ·unfold hsOk; rw [if_neg (by decide), if_neg (by decide), if_pos rfl, h1]
     ·cases h
    ·rw [if_neg hm] at h; cases h
   ·have et : Lib.trimPrefix w [35] = w := by unfold Lib.trimPrefix; rw [if_neg q2]
    rw [et, if_neg q2, if_neg q2, mget_nmE] at h
    by_cases hm : (⟨w.toArray⟩ : ByteArray) ∈ b
    ·rw [if_pos hm] at h
     simp only at h
     split at h
     ·rename_i hn
      obtain ⟨h1, h2⟩ := okAt_of hm hn
      simp only [Option.some.injEq, Prod.mk.injEq] at h
      obtain ⟨⟨rfl, rfl⟩, rfl⟩ := h
      refine ⟨?_, ?_⟩
      ·rw [hl]
       unfold hsN
       rw [if_neg (by decide), if_pos rfl, h2]
      ·unfold hsOk; rw [if_neg (by decide), if_pos rfl, h1]
     ·cases h
    ·rw [if_neg hm] at h; cases h
 ·intro k n r h hr
  have hp := hs_plain h
  have hw := wordN_app (fun c hc => ⟨(hp c hc).1, (hp c hc).2.1, (hp c hc).2.2.1⟩) hr
  unfold hdR
  rw [hw, List.take_left, List.drop_left]
  unfold hsOk at h
  unfold hdW hsN
  by_cases h0 : k = 0
  ·rw [if_pos h0] at h ⊢
   subst h0
   simp only [l21_, l22_] at h
   obtain ⟨m, rfl⟩ := Int.eq_ofNat_of_zero_le h.1
   have hd := num_dg (n := m) (by omega)
   have et : Lib.trimPrefix (36 :: dg (m : Int).toNat) [36] = dg m := by unfold Lib.trimPrefix; rw [hp_one, if_pos (by decide)]; simp
   rw [hp_one, if_pos (by decide), et, if_pos hd.1, hd.2]
  ·rw [if_neg h0] at h ⊢
   by_cases h1 : k = 1
   ·rw [if_pos h1] at h ⊢
    subst h1
    obtain ⟨x, e, hm, hi, hn⟩ := okAt_to h
    rw [e]
    obtain ⟨c, u, e2, hc⟩ := nameB_head hn
    have hc2 := wch_ne hc
    have q : Lib.hasPrefix x.data.toList [36] = false := by rw [e2]; exact hp_cons_ne hc2.2.2.2.2.2.1
    have q2 : Lib.hasPrefix x.data.toList [35] = false := by rw [e2]; exact hp_cons_ne hc2.2.2.2.2.1
    have et : Lib.trimPrefix x.data.toList [35] = x.data.toList := by unfold Lib.trimPrefix; rw [if_neg (by rw [q2]; exact l16_)]
    rw [if_neg (by rw [q]; exact l16_), et, ba_list, if_neg (by rw [q2]; exact l16_), if_neg (by rw [q2]; exact l16_), mget_nmE, if_pos hm]
    simp only
    rw [if_pos hn, hi]
   ·rw [if_neg h1] at h ⊢
    by_cases h2 : k = 2
    ·rw [if_pos h2] at h
     subst h2
     obtain ⟨x, e, hm, hi, hn⟩ := okAt_to h
     rw [e]
     have et : Lib.trimPrefix (35 :: x.data.toList) [35] = x.data.toList := by unfold Lib.trimPrefix; rw [hp_one, if_pos (by decide)]; simp
     rw [hp_cons_ne (by decide), if_neg (by decide), et, ba_list, hp_one, if_pos (by decide), if_pos (by decide), mget_nmE, if_pos hm]
     simp only
     rw [if_pos hn, hi]
    ·rw [if_neg h2] at h; cases h
def rdig (l : List UInt8) : List UInt8 := (l.take 11).takeWhile dch
def rval (l : List UInt8) : Int := (((Lib.decFrom 0 l).getD 0 : Nat) : Int)
def rnumOk (l : List UInt8) : Bool := decide (rdig l ≠ []) && decide (rval (rdig l) ≤ 1000000000) && (decide ((rdig l).length = 1) || decide ((rdig l).head? ≠ some 48))
def rhdR (a b : List ByteArray) (l : List UInt8) : Option ((Int × Int) × List UInt8) :=
 if Lib.hasPrefix l [36] = true then (if rnumOk (l.drop 1) = true then some ((0, rval (rdig (l.drop 1))), (l.drop 1).drop (rdig (l.drop 1)).length) else none)
 else if Lib.hasPrefix l [35] = true then (if (⟨((l.drop 1).takeWhile wch).toArray⟩ : ByteArray) ∈ a then some ((2, (a.idxOf ⟨((l.drop 1).takeWhile wch).toArray⟩ : Int)), (l.drop 1).drop ((l.drop 1).takeWhile wch).length) else none)
 else (if (⟨(l.takeWhile wch).toArray⟩ : ByteArray) ∈ b then some ((1, (b.idxOf ⟨(l.takeWhile wch).toArray⟩ : Int)), l.drop (l.takeWhile wch).length) else none)
def nwd (r : List UInt8) : Prop := ∀ c u, r = c :: u → wch c = false
theorem takeWhile_app {p : UInt8 → Bool} {x r : List UInt8} (hx : ∀ c ∈ x, p c = true) (hr : ∀ c u, r = c :: u → p c = false) : (x ++ r).takeWhile p = x := by
 induction x with
 | nil =>
  cases r with
  | nil => rfl
  | cons c u => rw [List.nil_append, List.takeWhile_cons, hr c u rfl]; rfl
 | cons a x ih => rw [List.cons_append, List.takeWhile_cons, hx a (l19_ ..)]; simp only [if_true]; rw [ih (fun c hc => hx c (l20_ _ hc))]
theorem takeWhile_split (p : UInt8 → Bool) (l : List UInt8) : l = l.takeWhile p ++ l.drop (l.takeWhile p).length := by
 induction l with
 | nil => rfl
 | cons a l ih =>
  rw [List.takeWhile_cons]
  cases q : p a with
  | false => rfl
  | true =>
   simp only [if_true, l8_, List.drop_succ_cons, List.cons_append]
   rw [← ih]
theorem dg_short {n : Nat} (h : n ≤ 1000000000) : (dg n).length ≤ 10 := dg_length (k := 10) (by decide) (by omega)
theorem rdig_dg {n : Nat} (h : n ≤ 1000000000) {r : List UInt8} (hr : ∀ c u, r = c :: u → dch c = false) : rdig (dg n ++ r) = dg n := by
 unfold rdig
 have hs := dg_short h
 have e : (dg n ++ r).take 11 = dg n ++ r.take (11 - (dg n).length) := by
  rw [List.take_append]
  congr 1
  exact List.take_of_length_le (by omega)
 rw [e]
 refine takeWhile_app (dg_digs n) ?_
 intro c u h2
 cases r with
 | nil => simp at h2
 | cons a v =>
  rw [show 11 - (dg n).length = (10 - (dg n).length) + 1 by omega, List.take_succ_cons] at h2
  injection h2 with h3 h4
  subst h3
  exact hr a v rfl
theorem rval_dg (n : Nat) : rval (dg n) = n := by unfold rval; rw [dec_dg]; rfl
theorem rnum_full {n : Nat} (h : n ≤ 1000000000) {r : List UInt8} (hr : ∀ c u, r = c :: u → dch c = false) : rnumOk (dg n ++ r) = true ∧ rdig (dg n ++ r) = dg n := by
 have e := rdig_dg h hr
 refine ⟨?_, e⟩
 unfold rnumOk
 rw [e, rval_dg, l2_ (dg_ne n), l2_ (show (n : Int) ≤ 1000000000 by omega)]
 by_cases h10 : n < 10
 ·rw [dg_one h10]; rfl
 ·rw [l2_ (dg_head (show 1 ≤ n by omega))]; simp
theorem rnum_sound {l : List UInt8} (h : rnumOk l = true) : ∃ n : Nat, n ≤ 1000000000 ∧ rdig l = dg n ∧ l = dg n ++ l.drop (rdig l).length ∧ rval (rdig l) = n := by
 unfold rnumOk at h
 simp only [l21_, Bool.or_eq_true, l22_] at h
 obtain ⟨⟨h1, h2⟩, h3⟩ := h
 have hd : ∀ x ∈ rdig l, digs.contains x = true := fun x hx => mem_tw hx
 obtain ⟨n, e⟩ : ∃ n, rdig l = dg n := by
  by_cases hh : (rdig l).head? = some 48
  ·have hl1 : (rdig l).length = 1 := by
    rcases h3 with h3 | h3
    ·exact h3
    ·exact absurd hh h3
   cases e : rdig l with
   | nil => exact absurd e h1
   | cons a r =>
    rw [e] at hl1 hh
    obtain rfl : r = [] := List.eq_nil_of_length_eq_zero (by simpa using hl1)
    simp at hh
    subst hh
    exact ⟨0, by rw [dg_one (by decide)]; rfl⟩
  ·obtain ⟨n, _, _, e⟩ := dec_inv _ h1 hd hh
   exact ⟨n, e.symm⟩
 have hv : rval (rdig l) = n := by rw [e, rval_dg]
 refine ⟨n, by omega, e, ?_, hv⟩
 rw [← e]
 have h4 := takeWhile_split dch (l.take 11)
 have h5 : l = l.take 11 ++ l.drop 11 := (List.take_append_drop _ _).symm
 have h6 : (rdig l).length ≤ (l.take 11).length := by
  have := congrArg List.length h4
  rw [l7_] at this
  unfold rdig
  omega
 have h7 : rdig l = l.take (rdig l).length := by
  have h8 : (l.take 11).take (rdig l).length = rdig l := by
   have : (l.take 11) = rdig l ++ (l.take 11).drop (rdig l).length := h4
   rw [this, List.take_left']
   rfl
  rw [List.take_take] at h8
  rw [List.length_take] at h6
  rw [show min (rdig l).length 11 = (rdig l).length by omega] at h8
  exact h8.symm
 conv => lhs; rw [← List.take_append_drop (rdig l).length l]
 rw [← h7]
theorem rhdR_G (a b : List ByteArray) (ha : ∀ x ∈ a, nameB x = true) (hb : ∀ x ∈ b, nameB x = true) : HdG (rhdR a b) (hsN a b) (hsOk a b) nwd := by
 refine ⟨?_, ?_, fun k n h => hs_ne h, fun r c u h => by cases h; decide, fun r c u h => by cases h; decide⟩
 ·intro l k n r h
  unfold rhdR at h
  by_cases q : Lib.hasPrefix l [36] = true
  ·rw [if_pos q] at h
   have e := hp_split q
   simp only [l8_, List.length_nil] at e
   split at h
   ·rename_i hok
    obtain ⟨m, hm, e1, e2, e3⟩ := rnum_sound hok
    simp only [Option.some.injEq, Prod.mk.injEq] at h
    obtain ⟨⟨rfl, rfl⟩, rfl⟩ := h
    rw [e3]
    refine ⟨?_, by unfold hsOk; rw [if_pos rfl]; simp; omega⟩
    unfold hsN
    rw [if_pos rfl, l14_, e]
    simp only [List.cons_append, List.nil_append]
    congr 1
   ·cases h
  ·rw [if_neg q] at h
   by_cases q2 : Lib.hasPrefix l [35] = true
   ·have e := hp_split q2
    simp only [l8_, List.length_nil] at e
    rw [if_pos q2] at h
    split at h
    ·rename_i hm
     obtain ⟨h1, h2⟩ := okAt_of hm (ha _ hm)
     simp only [Option.some.injEq, Prod.mk.injEq] at h
     obtain ⟨⟨rfl, rfl⟩, rfl⟩ := h
     refine ⟨?_, by unfold hsOk; rw [if_neg (by decide), if_neg (by decide), if_pos rfl, h1]⟩
     unfold hsN
     rw [if_neg (by decide), if_neg (by decide), h2]
     conv => lhs; rw [e]
     simp only [List.cons_append, List.nil_append]
     congr 1
     exact takeWhile_split wch _
    ·cases h
   ·rw [if_neg q2] at h
    split at h
    ·rename_i hm
     obtain ⟨h1, h2⟩ := okAt_of hm (hb _ hm)
     simp only [Option.some.injEq, Prod.mk.injEq] at h
     obtain ⟨⟨rfl, rfl⟩, rfl⟩ := h
     refine ⟨?_, by unfold hsOk; rw [if_neg (by decide), if_pos rfl, h1]⟩
     unfold hsN
     rw [if_neg (by decide), if_pos rfl, h2]
     exact takeWhile_split wch _
    ·cases h
 ·intro k n r h hr
  unfold hsOk at h
  unfold rhdR hsN
  by_cases h0 : k = 0
  ·rw [if_pos h0] at h ⊢
   subst h0
   simp only [l21_, l22_] at h
   obtain ⟨m, rfl⟩ := Int.eq_ofNat_of_zero_le h.1
   have hd := rnum_full (n := m) (by omega) (r := r) (fun c u e => by
    cases q : dch c with
    | false => rfl
    | true => have := hr c u e; rw [dch_wch q] at this; cases this)
   rw [List.cons_append, hp_one, if_pos (by decide)]
   simp only [List.drop_succ_cons, List.drop_zero, l14_]
   rw [if_pos hd.1, hd.2, rval_dg, List.drop_left]
  ·rw [if_neg h0] at h ⊢
   by_cases h1 : k = 1
   ·rw [if_pos h1] at h ⊢
    subst h1
    obtain ⟨x, e, hm, hi, hn⟩ := okAt_to h
    rw [e]
    obtain ⟨c, u, e2, hc⟩ := nameB_head hn
    have hc2 := wch_ne hc
    have ht := takeWhile_app (p := wch) (nameB_wch hn) hr
    rw [ht, ba_list, if_pos hm, hi, List.drop_left, e2, List.cons_append, hp_cons_ne hc2.2.2.2.2.2.1, hp_cons_ne hc2.2.2.2.2.1, if_neg (by decide), if_neg (by decide)]
   ·rw [if_neg h1] at h ⊢
    by_cases h2 : k = 2
    ·rw [if_pos h2] at h
     subst h2
     obtain ⟨x, e, hm, hi, hn⟩ := okAt_to h
     rw [e]
     have ht := takeWhile_app (p := wch) (nameB_wch hn) hr
     rw [List.cons_append, hp_cons_ne (by decide), if_neg (by decide), hp_one, if_pos (by decide)]
     simp only [List.drop_succ_cons, List.drop_zero]
     rw [ht, ba_list, if_pos hm, hi, List.drop_left]
    ·rw [if_neg h2] at h; cases h
theorem index3 {c : UInt8} (hc : c ≠ 32) : ∀ {x y : List UInt8}, c ∉ x → Lib.index (x ++ 32 :: c :: 32 :: y) [32, c, 32] = x.length
 | [], y, _ => by rw [List.nil_append, Lib.index]; simp [List.isPrefixOf]
 | b :: x, y, h => by
  have hx : c ∉ x := fun hm => h (l20_ _ hm)
  have e : List.isPrefixOf [32, c, 32] (b :: (x ++ 32 :: c :: 32 :: y)) = false := by
   cases x with
   | nil => simp [List.isPrefixOf, hc]
   | cons a x =>
    have ha : c ≠ a := fun e => hx (e ▸ l19_ ..)
    simp [List.isPrefixOf, ha]
  rw [List.cons_append, Lib.index, index3 hc hx, e]
  have : (((x.length : Nat) : Int) == -1) = false := by rw [beq_eq_false_iff_ne]; omega
  rw [this]
  simp
theorem cut3 {c : UInt8} (hc : c ≠ 32) {x y : List UInt8} (h : c ∉ x) : Lib.cut (x ++ 32 :: c :: 32 :: y) [32, c, 32] = (x, y, true) := by
 unfold Lib.cut
 rw [index3 hc h, if_pos (by omega)]
 simp
theorem cut_sound {l sep : List UInt8} (h : (Lib.cut l sep).2.2 = true) : l = (Lib.cut l sep).1 ++ (sep ++ (Lib.cut l sep).2.1) := by
 unfold Lib.cut at h ⊢
 by_cases q : 0 ≤ Lib.index l sep
 ·rw [if_pos q]
  simp only
  rcases Lib.index_spec l sep with ⟨h1, _⟩ | ⟨i, h1, h2, h3, _⟩
  ·omega
  ·rw [h1, l14_]
   have h4 := hp_split (l := l.drop i) (p := sep) h3
   rw [List.drop_drop] at h4
   conv => lhs; rw [← List.take_append_drop i l, h4]
 ·rw [if_neg q] at h; cases h
structure It where
 nm : ByteArray
 s : S47
 b : ByteArray
def yok (y : S71) : Bool := nameB y.f0 && decide (0 ≤ y.f1) && decide (y.f1 ≤ 1000000000)
def symB (y : S71) : List UInt8 := pSym ++ (y.f0.data.toList ++ 32 :: dg y.f1.toNat)
def funB (i : It) : List UInt8 := pFun ++ (i.nm.data.toList ++ 32 :: 58 :: 32 :: (srtS i.s ++ 32 :: 61 :: 32 :: i.b.data.toList))
def rawS (s : S47) : S47 := if schkV s = 0 then s else ⟨[]⟩
def pushIt (g : GSt) (i : It) : GSt := { sy := g.sy, fs := g.fs ++ [⟨i.nm, rawS i.s, ⟨0, 0, []⟩⟩], bo := g.bo ++ [i.b], large := g.large || decide (schkV i.s ≠ 0) }
theorem symR_iff {l : List UInt8} {y : S71} : symR l = some y ↔ yok y = true ∧ l = y.f0.data.toList ++ 32 :: dg y.f1.toNat := by
 constructor
 ·intro h
  unfold symR at h
  split at h
  ·rename_i hc
   obtain ⟨h1, h2, h3⟩ := hc
   obtain ⟨k1, k2⟩ := cut_true h1
   obtain ⟨n, hn, e1, e2⟩ := num_inv h2
   obtain rfl := l13_ h
   refine ⟨?_, ?_⟩
   ·unfold yok
    simp only [h3, e2]
    simp; omega
   ·simp only [e2, l14_]
    rw [← e1]
    exact k2
  ·cases h
 ·rintro ⟨h, rfl⟩
  unfold yok at h
  simp only [l21_, l22_] at h
  obtain ⟨n, hn⟩ := Int.eq_ofNat_of_zero_le h.1.2
  have hnm := nameB_wch h.1.1
  have hc : (32 : UInt8) ∉ y.f0.data.toList := fun hm => (wch_ne (hnm _ hm)).1 rfl
  have hd := num_dg (n := n) (by omega)
  unfold symR
  rw [cut_hit hc, hn, l14_]
  simp only [ba_list]
  rw [if_pos ⟨trivial, hd.1, h.1.1⟩, hd.2, ← hn]
theorem getSV_iff {t : ByteArray} {s : S47} : getSV t = some s ↔ t.data.toList = srtS s := by
 unfold getSV
 constructor
 ·intro h
  obtain ⟨⟨s1, r⟩, h1, h2⟩ := Option.bind_eq_some_iff.1 h
  obtain ⟨e, _⟩ := srtR_sound h1
  simp only at h2
  split at h2
  ·rename_i hr
   obtain rfl := l13_ h2
   rw [e, hr, List.append_nil]
  ·cases h2
 ·intro h
  have := srtR_full s (r := []) rfl
  rw [List.append_nil] at this
  rw [h, this]
  rfl
theorem getSR_of {t : ByteArray} {s : S47} (hs : t.size ≤ 65536) (h : getSV t = some s) : (getSR t).1 ≠ 4 ∧ (getSR t).2 = rawS s ∧ decide ((getSR t).1 ≠ 0) = decide (schkV s ≠ 0) := by
 by_cases q : schkV s = 0
 ·have e : getSR t = (0, s) := by unfold getSR; rw [if_neg (by omega), h]; simp only; rw [if_pos q]
  unfold rawS
  rw [e, if_pos q]
  exact ⟨by show (0 : Int) ≠ 4; decide, rfl, by simp [q]⟩
 ·have e : getSR t = (6, ⟨[]⟩) := by unfold getSR; rw [if_neg (by omega), h]; simp only; rw [if_neg q]
  unfold rawS
  rw [e, if_neg q]
  exact ⟨by decide, rfl, by simp [q]⟩
theorem arr_size (l : List UInt8) : (⟨l.toArray⟩ : ByteArray).size = l.length := List.size_toArray
theorem trim_hit (p l : List UInt8) : Lib.trimPrefix (p ++ l) p = l := by unfold Lib.trimPrefix; rw [if_pos (hp_app p l)]; simp
theorem lnStep_sound {g g2 : GSt} {s : ByteArray} (hs : s.size ≤ 65536) (h : lnStep g s = some g2) :
  (∃ y, g.fs = [] ∧ yok y = true ∧ s.data.toList = symB y ∧ g2 = { g with sy := g.sy ++ [y] }) ∨ ∃ i, nameB i.nm = true ∧ s.data.toList = funB i ∧ g2 = pushIt g i := by
 unfold lnStep at h
 simp only at h
 split at h
 ·rename_i hc
  obtain ⟨y, hy, rfl⟩ := Option.map_eq_some_iff.1 h
  have e := hp_split hc.1
  have e2 : Lib.trimPrefix s.data.toList pSym = s.data.toList.drop pSym.length := by unfold Lib.trimPrefix; rw [if_pos hc.1]
  rw [e2] at hy
  obtain ⟨h1, h2⟩ := symR_iff.1 hy
  refine .inl ⟨y, List.eq_nil_of_length_eq_zero hc.2, h1, ?_, rfl⟩
  unfold symB
  rw [← h2]; exact e
 ·split at h
  ·rename_i hc
   obtain ⟨h1, h2, h3, h4⟩ := hc
   have e := hp_split h1
   have e2 : Lib.trimPrefix s.data.toList pFun = s.data.toList.drop pFun.length := by unfold Lib.trimPrefix; rw [if_pos h1]
   rw [e2] at h h2 h3 h4
   have c1 := cut_sound h2
   have c2 := cut_sound h3
   have hz : (ByteArray.mk (Lib.cut (Lib.cut (s.data.toList.drop pFun.length) [32, 58, 32]).2.1 [32, 61, 32]).1.toArray).size ≤ 65536 := by
    rw [arr_size]
    have i1 := (cut_size (s.data.toList.drop pFun.length) [32, 58, 32]).2
    have i2 := (cut_size (Lib.cut (s.data.toList.drop pFun.length) [32, 58, 32]).2.1 [32, 61, 32]).1
    rw [l9_, ← Lib.size_eq] at i1
    omega
   cases q : getSV ⟨(Lib.cut (Lib.cut (s.data.toList.drop pFun.length) [32, 58, 32]).2.1 [32, 61, 32]).1.toArray⟩ with
   | none =>
    rw [getSR_bad hz q] at h
    simp at h
   | some so =>
    obtain ⟨k1, k2, k3⟩ := getSR_of hz q
    rw [if_neg k1, k2, k3] at h
    obtain rfl := l13_ h
    have q2 := getSV_iff.1 q
    refine .inr ⟨⟨⟨(Lib.cut (s.data.toList.drop pFun.length) [32, 58, 32]).1.toArray⟩, so, ⟨(Lib.cut (Lib.cut (s.data.toList.drop pFun.length) [32, 58, 32]).2.1 [32, 61, 32]).2.1.toArray⟩⟩, h4, ?_, rfl⟩
    unfold funB
    simp only
    rw [← q2]
    conv => lhs; rw [e, c1, c2]
    simp
  ·cases h
theorem lnStep_sym {g : GSt} {s : ByteArray} {y : S71} (hg : g.fs = []) (hy : yok y = true) (h : s.data.toList = symB y) : lnStep g s = some { g with sy := g.sy ++ [y] } := by
 unfold lnStep
 simp only
 rw [h]
 unfold symB
 rw [if_pos ⟨hp_app _ _, by rw [hg]; rfl⟩, trim_hit, symR_iff.2 ⟨hy, rfl⟩]
 rfl
theorem lnStep_fun {g : GSt} {s : ByteArray} {i : It} (hs : s.size ≤ 65536) (hn : nameB i.nm = true) (h : s.data.toList = funB i) : lnStep g s = some (pushIt g i) := by
 have hnm := nameB_wch hn
 have hc : (58 : UInt8) ∉ i.nm.data.toList := fun hm => (wch_ne (hnm _ hm)).2.2.2.2.2.2.1 rfl
 have hc2 : (61 : UInt8) ∉ srtS i.s := fun hm => by have := srtS_chars i.s _ hm; revert this; decide
 have hlen := congrArg List.length h
 rw [← Lib.size_eq] at hlen
 have hz : (ByteArray.mk (srtS i.s).toArray).size ≤ 65536 := by
  rw [arr_size]
  unfold funB at hlen
  simp only [l7_, l8_] at hlen
  omega
 obtain ⟨k1, k2, k3⟩ := getSR_of hz (getSV_iff.2 rfl)
 unfold lnStep
 simp only
 rw [h]
 unfold funB
 rw [if_neg (fun x => by
  have := x.1
  unfold Lib.hasPrefix pSym pFun at this
  simp [List.isPrefixOf] at this), trim_hit, cut3 (by decide) hc, cut3 (by decide) hc2]
 simp only [ba_list]
 rw [if_pos ⟨hp_app _ _, trivial, trivial, hn⟩, if_neg k1, k2, k3]
 rfl
theorem lnAll_sound : ∀ (L : List ByteArray) (g g2 : GSt), (∀ s ∈ L, s.size ≤ 65536) → lnAll g L = some g2 →
  ∃ (sy : List S71) (its : List It), (sy ≠ [] → g.fs = []) ∧ (∀ y ∈ sy, yok y = true) ∧ (∀ i ∈ its, nameB i.nm = true) ∧ L.map (·.data.toList) = sy.map symB ++ its.map funB ∧ g2 = its.foldl pushIt { g with sy := g.sy ++ sy } := by
 intro L
 induction L with
 | nil =>
  intro g g2 _ h
  obtain rfl := l13_ h
  exact ⟨[], [], fun h => absurd rfl h, by simp, by simp, rfl, by simp⟩
 | cons s r ih =>
  intro g g2 hz h
  rw [lnAll] at h
  obtain ⟨g1, h1, h⟩ := Option.bind_eq_some_iff.1 h
  obtain ⟨sy, its, k1, k2, k3, k4, k5⟩ := ih g1 g2 (fun x hx => hz x (l20_ _ hx)) h
  rcases lnStep_sound (hz s (l19_ ..)) h1 with ⟨y, hg, hy, he, rfl⟩ | ⟨i, hn, he, rfl⟩
  ·refine ⟨y :: sy, its, fun _ => hg, ?_, k3, ?_, ?_⟩
   ·intro z hz
    rcases List.mem_cons.1 hz with rfl | hz
    ·exact hy
    ·exact k2 z hz
   ·rw [List.map_cons, k4, he]; rfl
   ·rw [k5]; simp
  ·have hsy : sy = [] := by
    cases sy with
    | nil => rfl
    | cons a b =>
     have := k1 (by simp)
     unfold pushIt at this
     simp at this
   subst hsy
   refine ⟨[], i :: its, fun h => absurd rfl h, by simp, ?_, ?_, ?_⟩
   ·intro z hz
    rcases List.mem_cons.1 hz with rfl | hz
    ·exact hn
    ·exact k3 z hz
   ·rw [List.map_cons, k4, he]; rfl
   ·rw [k5]; simp
theorem lnAll_fun : ∀ (its : List It) (L : List ByteArray) (g : GSt), (∀ s ∈ L, s.size ≤ 65536) → (∀ i ∈ its, nameB i.nm = true) → L.map (·.data.toList) = its.map funB → lnAll g L = some (its.foldl pushIt g) := by
 intro its
 induction its with
 | nil =>
  intro L g _ _ h
  have : L = [] := by simpa using h
  rw [this]; rfl
 | cons i r ih =>
  intro L g hz hn h
  cases L with
  | nil => simp at h
  | cons s L =>
   simp only [List.map_cons, List.cons.injEq] at h
   rw [lnAll, lnStep_fun (hz s (l19_ ..)) (hn i (l19_ ..)) h.1]
   simp only [l23_, List.foldl_cons]
   exact ih L _ (fun x hx => hz x (l20_ _ hx)) (fun x hx => hn x (l20_ _ hx)) h.2
theorem lnAll_full : ∀ (sy : List S71) (its : List It) (L : List ByteArray) (g : GSt), g.fs = [] → (∀ s ∈ L, s.size ≤ 65536) → (∀ y ∈ sy, yok y = true) → (∀ i ∈ its, nameB i.nm = true) → L.map (·.data.toList) = sy.map symB ++ its.map funB →
  lnAll g L = some (its.foldl pushIt { g with sy := g.sy ++ sy }) := by
 intro sy
 induction sy with
 | nil =>
  intro its L g hg hz _ hn h
  rw [List.append_nil]
  exact lnAll_fun its L g hz hn h
 | cons y r ih =>
  intro its L g hg hz hy hn h
  cases L with
  | nil => simp at h
  | cons s L =>
   simp only [List.map_cons, List.cons_append, List.cons.injEq] at h
   rw [lnAll, lnStep_sym hg (hy y (l19_ ..)) h.1]
   simp only [l23_]
   rw [ih its L { g with sy := g.sy ++ [y] } hg (fun x hx => hz x (l20_ _ hx)) (fun x hx => hy x (l20_ _ hx)) hn h.2]
   simp
theorem foldl_push (its : List It) : ∀ g : GSt, its.foldl pushIt g = ⟨g.sy, g.fs ++ its.map (fun i => ⟨i.nm, rawS i.s, ⟨0, 0, []⟩⟩), g.bo ++ its.map (·.b), g.large || its.any (fun i => decide (schkV i.s ≠ 0))⟩ := by
 induction its with
 | nil => intro g; simp
 | cons i r ih =>
  intro g
  rw [List.foldl_cons, ih]
  unfold pushIt
  simp [Bool.or_assoc]
def endL (l : List UInt8) : List UInt8 := l ++ [10]
theorem joinC_end (ls : List (List UInt8)) : joinC 10 (ls ++ [[]]) = ls.flatMap endL := by
 induction ls with
 | nil => rfl
 | cons p r ih => rw [List.cons_append, joinC_cons 10 p (by simp), ih, List.flatMap_cons]; simp [endL]
theorem symB_10 {y : S71} (h : yok y = true) : (10 : UInt8) ∉ symB y := by
 unfold yok at h
 simp only [l21_, l22_] at h
 unfold symB pSym
 simp only [List.mem_append, List.mem_cons, List.mem_nil_iff, or_false, not_or]
 exact ⟨⟨by decide, by decide, by decide, by decide, by decide, by decide, by decide⟩, fun hm => (wch_ne (nameB_wch h.1.1 _ hm)).2.2.2.1 rfl, by decide, dg_not (by decide) _⟩
theorem funB_10 {i : It} (h : nameB i.nm = true) (hb : (10 : UInt8) ∉ i.b.data.toList) : (10 : UInt8) ∉ funB i := by
 unfold funB pFun
 simp only [List.mem_append, List.mem_cons, List.mem_nil_iff, or_false, not_or]
 exact ⟨⟨by decide, by decide, by decide, by decide⟩, fun hm => (wch_ne (nameB_wch h _ hm)).2.2.2.1 rfl, by decide, by decide, by decide, fun hm => by have := srtS_chars i.s _ hm; revert this; decide, by decide, by decide, by decide, hb⟩
def getL (t : ByteArray) : Option GSt :=
 if (chunks t 10).getD ((chunks t 10).length - 1) ByteArray.empty = ByteArray.empty then lnAll ⟨[], [], [], false⟩ ((chunks t 10).take ((chunks t 10).length - 1)) else none
theorem chunk_mem {t s : ByteArray} (h : s ∈ chunks t 10) : s.size ≤ t.size := splitB_size _ _ _ _ h
def TX (sy : List S71) (its : List It) : List UInt8 := (sy.map symB ++ its.map funB).flatMap endL
theorem getL_sound {t : ByteArray} (hs : t.size ≤ 65536) {g : GSt} (h : getL t = some g) :
  ∃ (sy : List S71) (its : List It), (∀ y ∈ sy, yok y = true) ∧ (∀ i ∈ its, nameB i.nm = true ∧ (10 : UInt8) ∉ i.b.data.toList) ∧ t.data.toList = TX sy its ∧ g = ⟨sy, its.map (fun i => ⟨i.nm, rawS i.s, ⟨0, 0, []⟩⟩), its.map (·.b), its.any (fun i => decide (schkV i.s ≠ 0))⟩ := by
 unfold getL at h
 split at h
 ·rename_i hlast
  obtain ⟨k0, k1, k2⟩ := chunksL_spec t 10
  have hpos := chunks_pos t 10
  obtain ⟨sy, its, j1, j2, j3, j4, j5⟩ := lnAll_sound _ _ _ (fun s hm => Nat.le_trans (chunk_mem (List.mem_of_mem_take hm)) hs) h
  have hL : chunksL t 10 = (sy.map symB ++ its.map funB) ++ [[]] := by
   rw [← j4]
   unfold chunksL
   have e : chunks t 10 = (chunks t 10).take ((chunks t 10).length - 1) ++ [ByteArray.empty] := by
    conv => lhs; rw [← List.take_append_drop ((chunks t 10).length - 1) (chunks t 10)]
    congr 1
    rw [List.drop_eq_getElem_cons (by omega), l15_ (by omega)]
    rw [l18_, l17_ (by omega)] at hlast
    simp only [Option.getD_some] at hlast
    rw [hlast]
   conv => lhs; rw [e]
   simp
  rw [hL] at k1 k2
  rw [joinC_end] at k1
  refine ⟨sy, its, j2, fun i hi => ⟨j3 i hi, fun hm => ?_⟩, k1.symm, by rw [j5, foldl_push]; simp⟩
  refine k2 (funB i) (by simp only [List.mem_append, List.mem_map]; exact .inl (.inr ⟨i, hi, rfl⟩)) ?_
  unfold funB
  simp [hm]
 ·cases h
theorem getL_full {t : ByteArray} (hs : t.size ≤ 65536) {sy : List S71} {its : List It} (hy : ∀ y ∈ sy, yok y = true) (hi : ∀ i ∈ its, nameB i.nm = true ∧ (10 : UInt8) ∉ i.b.data.toList) (ht : t.data.toList = TX sy its) :
  getL t = some ⟨sy, its.map (fun i => ⟨i.nm, rawS i.s, ⟨0, 0, []⟩⟩), its.map (·.b), its.any (fun i => decide (schkV i.s ≠ 0))⟩ := by
 have hL : chunksL t 10 = (sy.map symB ++ its.map funB) ++ [[]] := by
  refine chunksL_iff (by simp) ?_ (by rw [joinC_end, ht]; rfl)
  intro p hp
  simp only [List.mem_append, List.mem_map, List.mem_singleton] at hp
  rcases hp with (⟨y, h1, rfl⟩ | ⟨i, h1, rfl⟩) | rfl
  ·exact symB_10 (hy y h1)
  ·exact funB_10 (hi i h1).1 (hi i h1).2
  ·simp
 have hlen : (chunks t 10).length = (sy.map symB ++ its.map funB).length + 1 := by
  have := congrArg List.length hL
  unfold chunksL at this
  simpa [Nat.add_assoc] using this
 unfold getL
 have hlast : (chunks t 10).getD ((chunks t 10).length - 1) ByteArray.empty = ByteArray.empty := by
  apply bytes_ext
  have e : (chunksL t 10)[(chunks t 10).length - 1]? = some [] := by
   rw [hL, hlen, Nat.add_sub_cancel]
   simp
  unfold chunksL at e
  rw [List.getElem?_map] at e
  obtain ⟨x, hx, e⟩ := Option.map_eq_some_iff.1 e
  rw [l18_, hx]
  exact e
 have htake : ((chunks t 10).take ((chunks t 10).length - 1)).map (·.data.toList) = sy.map symB ++ its.map funB := by
  rw [List.map_take, show (chunks t 10).map (·.data.toList) = chunksL t 10 from rfl, hL, hlen, Nat.add_sub_cancel, List.take_left]
 rw [if_pos hlast, lnAll_full sy its _ _ rfl (fun s hm => Nat.le_trans (chunk_mem (List.mem_of_mem_take hm)) hs) hy (fun i h => (hi i h).1) htake, foldl_push]
 simp
theorem trmS_chars_aux {hs : Int → Int → List UInt8} {ok : Int → Int → Bool} {p : UInt8 → Prop} (hh : ∀ k n, ok k n = true → ∀ x ∈ hs k n, p x) (h32 : p 32) (h40 : p 40) (h41 : p 41) (n : Nat) : ∀ t : S50, tN t ≤ n → tAll ok t = true → ∀ x ∈ trmS hs t, p x := by
 induction n with
 | zero => intro t h; have := tN_pos t; omega
 | succ n ih =>
  intro t h hok
  obtain ⟨k, m, l⟩ := t
  rw [tN] at h
  rw [tAll, l21_] at hok
  have : ∀ l : List S50, tNL l ≤ n → tAllL ok l = true → ∀ x ∈ trmSL hs l, p x := by
   intro l
   induction l with
   | nil => intro _ _ x hx; simp [trmSL] at hx
   | cons a r ihr =>
    intro h hok x hx
    rw [tNL] at h
    rw [tAllL, l21_] at hok
    have h1 := ih a (by omega) hok.1
    have h2 := ihr (by omega) hok.2
    rw [trmSL, List.mem_cons, List.mem_append] at hx
    rcases hx with rfl | hx | hx
    ·exact h32
    ·unfold wrapT at hx
     split at hx
     ·exact h1 x hx
     ·simp only [List.mem_cons, List.mem_append, List.mem_nil_iff, or_false] at hx
      rcases hx with rfl | hx | rfl
      ·exact h40
      ·exact h1 x hx
      ·exact h41
    ·exact h2 x hx
  intro x hx
  rw [trmS, List.mem_append] at hx
  rcases hx with hx | hx
  ·exact hh k m hok.1 x hx
  ·exact this l (by omega) hok.2 x hx
theorem trmS_10 {a b : List ByteArray} {t : S50} (h : tAll (hsOk a b) t = true) : (10 : UInt8) ∉ trmS (hsN a b) t := fun hm =>
 trmS_chars_aux (p := fun x => x ≠ 10) (fun k n h x hx => (hs_plain h x hx).2.2.2) (by decide) (by decide) (by decide) _ t (Nat.le_refl _) h 10 hm rfl
def funN (a b : List ByteArray) (f : S52) : List UInt8 := funB ⟨f.f0, f.f1, ⟨(trmS (hsN a b) f.f2).toArray⟩⟩
def putN (sy : List S71) (F : List S52) : List UInt8 := (sy.map symB ++ F.map (funN (sy.map (·.f0)) (F.map (·.f0)))).flatMap endL
structure Txt (sy : List S71) (F : List S52) : Prop where
 so : ∀ y ∈ sy, yok y = true
 nm : ∀ f ∈ F, nameB f.f0 = true
 bd : ∀ f ∈ F, tAll (hsOk (sy.map (·.f0)) (F.map (·.f0))) f.f2 = true
def rawF (f : S52) : S52 := ⟨f.f0, rawS f.f1, f.f2⟩
def largeF (F : List S52) : Bool := F.any fun f => decide (schkV f.f1 ≠ 0)
theorem tmR_whole {a b : List ByteArray} {l : List UInt8} {t : S50} : tmR (nmE a) (nmE b) l = some (t, []) ↔ tAll (hsOk a b) t = true ∧ l = trmS (hsN a b) t := by
 rw [tmR_tmRG]
 constructor
 ·intro h
  obtain ⟨e, hok, _⟩ := tmRG_sound (hdR_G a b) h
  rw [List.append_nil] at e
  exact ⟨hok, e⟩
 ·rintro ⟨hok, rfl⟩
  have := tmRG_full (hdR_G a b) hok (r := []) rfl (.inl rfl)
  rwa [List.append_nil] at this
theorem boAll_sound {a b : List ByteArray} : ∀ (its : List It) (fs : List S52), boAll (nmE a) (nmE b) (its.map (fun i => ⟨i.nm, rawS i.s, ⟨0, 0, []⟩⟩)) (its.map (·.b)) = some fs →
  ∃ F : List S52, F.map (fun f => (⟨f.f0, f.f1, ⟨(trmS (hsN a b) f.f2).toArray⟩⟩ : It)) = its ∧ (∀ f ∈ F, tAll (hsOk a b) f.f2 = true) ∧ fs = F.map rawF := by
 intro its
 induction its with
 | nil =>
  intro fs h
  have : fs = [] := by simpa [boAll] using h.symm
  exact ⟨[], rfl, by simp, this⟩
 | cons i r ih =>
  intro fs h
  rw [List.map_cons, List.map_cons, boAll] at h
  obtain ⟨⟨t, u⟩, h1, h⟩ := Option.bind_eq_some_iff.1 h
  simp only at h
  split at h
  ·rename_i hu
   subst hu
   obtain ⟨fs2, h2, rfl⟩ := Option.map_eq_some_iff.1 h
   obtain ⟨F, k1, k2, rfl⟩ := ih _ h2
   obtain ⟨hok, e⟩ := tmR_whole.1 h1
   refine ⟨⟨i.nm, i.s, t⟩ :: F, ?_, ?_, rfl⟩
   ·rw [List.map_cons, k1]
    congr 1
    rw [← e, ba_list]
   ·intro f hf
    rcases List.mem_cons.1 hf with rfl | hf
    ·exact hok
    ·exact k2 f hf
  ·cases h
theorem boAll_full {a b : List ByteArray} : ∀ (F : List S52), (∀ f ∈ F, tAll (hsOk a b) f.f2 = true) →
  boAll (nmE a) (nmE b) (F.map (fun f => ⟨f.f0, rawS f.f1, ⟨0, 0, []⟩⟩)) (F.map (fun f => (⟨(trmS (hsN a b) f.f2).toArray⟩ : ByteArray))) = some (F.map rawF) := by
 intro F
 induction F with
 | nil => intro _; rfl
 | cons f r ih =>
  intro h
  rw [List.map_cons, List.map_cons, boAll, show (ByteArray.mk (trmS (hsN a b) f.f2).toArray).data.toList = trmS (hsN a b) f.f2 from rfl, tmR_whole.2 ⟨h f (l19_ ..), rfl⟩]
  simp only [l23_, if_true]
  rw [ih (fun g hg => h g (l20_ _ hg))]
  rfl
theorem getV3_eq (t : ByteArray) : getV3 t = (getL t).bind fun g => (boAll (nmE (g.sy.map (·.f0))) (nmE (g.fs.map (·.f0))) g.fs g.bo).map fun fs => (g.sy, fs, g.large) := by
 unfold getV3 getL
 simp only
 split <;> rfl
theorem getV3_iff {t : ByteArray} (hs : t.size ≤ 65536) {sy : List S71} {fs : List S52} {large : Bool} :
  getV3 t = some (sy, fs, large) ↔ ∃ F, Txt sy F ∧ t.data.toList = putN sy F ∧ fs = F.map rawF ∧ large = largeF F := by
 rw [getV3_eq]
 constructor
 ·intro h
  obtain ⟨g, h1, h⟩ := Option.bind_eq_some_iff.1 h
  obtain ⟨sy2, its, k1, k2, k3, rfl⟩ := getL_sound hs h1
  simp only [List.map_map] at h
  obtain ⟨fs2, h2, h⟩ := Option.map_eq_some_iff.1 h
  simp only [Prod.mk.injEq] at h
  obtain ⟨rfl, rfl, rfl⟩ := h
  obtain ⟨F, j1, j2, rfl⟩ := boAll_sound its fs2 h2
  have hnames : its.map ((fun x => x.f0) ∘ fun i => (⟨i.nm, rawS i.s, ⟨0, 0, []⟩⟩ : S52)) = F.map (·.f0) := by
   conv => lhs; rw [← j1]
   rw [List.map_map]; rfl
  rw [hnames] at j1 j2
  refine ⟨F, ⟨k1, fun f hf => ?_, j2⟩, ?_, rfl, ?_⟩
  ·have : (⟨f.f0, f.f1, ⟨(trmS (hsN (sy2.map (·.f0)) (F.map (·.f0))) f.f2).toArray⟩⟩ : It) ∈ its := by rw [← j1]; exact List.mem_map.2 ⟨f, hf, rfl⟩
   exact (k2 _ this).1
  ·rw [k3]
   conv => lhs; rw [← j1]
   unfold TX putN
   rw [List.map_map]; rfl
  ·conv => lhs; rw [← j1]
   unfold largeF
   rw [List.any_map]; rfl
 ·rintro ⟨F, hT, ht, rfl, rfl⟩
  have hf := getL_full hs (sy := sy) (its := F.map (fun f => (⟨f.f0, f.f1, ⟨(trmS (hsN (sy.map (·.f0)) (F.map (·.f0))) f.f2).toArray⟩⟩ : It))) hT.so (fun i hi => by
   obtain ⟨f, hf, rfl⟩ := List.mem_map.1 hi
   exact ⟨hT.nm f hf, trmS_10 (hT.bd f hf)⟩) (by rw [ht]; unfold TX putN; rw [List.map_map]; rfl)
  rw [hf]
  simp only [l23_, List.map_map]
  have e1 : F.map ((fun x => x.f0) ∘ (fun i => (⟨i.nm, rawS i.s, ⟨0, 0, []⟩⟩ : S52)) ∘ fun f => (⟨f.f0, f.f1, ⟨(trmS (hsN (sy.map (·.f0)) (F.map (·.f0))) f.f2).toArray⟩⟩ : It)) = F.map (·.f0) := rfl
  have e2 : F.map ((fun i => (⟨i.nm, rawS i.s, ⟨0, 0, []⟩⟩ : S52)) ∘ fun f => (⟨f.f0, f.f1, ⟨(trmS (hsN (sy.map (·.f0)) (F.map (·.f0))) f.f2).toArray⟩⟩ : It)) = F.map (fun f => ⟨f.f0, rawS f.f1, ⟨0, 0, []⟩⟩) := rfl
  have e3 : F.map ((fun x => x.b) ∘ fun f => (⟨f.f0, f.f1, ⟨(trmS (hsN (sy.map (·.f0)) (F.map (·.f0))) f.f2).toArray⟩⟩ : It)) = F.map (fun f => (⟨(trmS (hsN (sy.map (·.f0)) (F.map (·.f0))) f.f2).toArray⟩ : ByteArray)) := rfl
  rw [e1, e2, e3, boAll_full F hT.bd]
  simp only [Option.map_some, List.any_map]
  rfl
theorem rawS_good {s : S47} (h : schkV s = 0) : rawS s = s := by unfold rawS; rw [if_pos h]
theorem schB_srt {sy : List S71} {F : List S52} (h : schB sy F = true) : ∀ f ∈ F, schkV f.f1 = 0 := by
 obtain ⟨_, _, h5, _, _⟩ := schB_parts h
 intro f hf
 unfold schkV
 rw [headOk_srt (h5 f hf)]; rfl
theorem large_raw {F : List S52} (h : largeF F = false) : F.map rawF = F := by
 unfold largeF at h
 have h2 : ∀ f ∈ F, rawF f = f := by
  intro f hf
  have h3 := List.any_eq_false.1 h f hf
  simp only [l22_, ne_eq, Decidable.not_not] at h3
  unfold rawF
  rw [rawS_good h3]
 conv => rhs; rw [← List.map_id F]
 exact List.map_congr_left h2
theorem schB_large {sy : List S71} {F : List S52} (h : schB sy F = true) : largeF F = false := by
 unfold largeF
 rw [List.any_eq_false]
 intro f hf
 simp [schB_srt h f hf]
def rsymStep (l : List UInt8) : Option (S71 × List UInt8) :=
 if nameB ⟨(l.takeWhile wch).toArray⟩ = true ∧ Lib.hasPrefix (l.drop (l.takeWhile wch).length) [32] = true then
  (if rnumOk ((l.drop (l.takeWhile wch).length).drop 1) = true ∧ Lib.hasPrefix (((l.drop (l.takeWhile wch).length).drop 1).drop (rdig ((l.drop (l.takeWhile wch).length).drop 1)).length) [10] = true then
   some (⟨⟨(l.takeWhile wch).toArray⟩, rval (rdig ((l.drop (l.takeWhile wch).length).drop 1))⟩, (((l.drop (l.takeWhile wch).length).drop 1).drop (rdig ((l.drop (l.takeWhile wch).length).drop 1)).length).drop 1)
  else none)
 else none
def rnSyms : Nat → List S71 → List UInt8 → Option (List S71 × List UInt8)
 | 0, _, _ => none
 | n + 1, acc, l => if Lib.hasPrefix l pSym = true then (rsymStep (l.drop 7)).bind fun p => rnSyms n (acc ++ [p.1]) p.2 else some (acc, l)
structure RIt where
 nm : ByteArray
 s : S47
 body : List UInt8
def ne10 (c : UInt8) : Bool := decide (c ≠ 10)
def rfunStep (l : List UInt8) : Option (RIt × List UInt8) :=
 if nameB ⟨(l.takeWhile wch).toArray⟩ = true ∧ Lib.hasPrefix (l.drop (l.takeWhile wch).length) [32, 58, 32] = true then
  (srtR [] ((l.drop (l.takeWhile wch).length).drop 3)).bind fun p =>
   if Lib.hasPrefix p.2 [32, 61, 32] = true then (if p.2.dropWhile ne10 = [] then none else some (⟨⟨(l.takeWhile wch).toArray⟩, p.1, p.2.drop 3⟩, (p.2.dropWhile ne10).drop 1)) else none
 else none
def rnFuns : Nat → List RIt → List UInt8 → Option (List RIt × List UInt8)
 | 0, _, _ => none
 | n + 1, acc, l => if Lib.hasPrefix l pFun = true then (rfunStep (l.drop 4)).bind fun p => rnFuns n (acc ++ [p.1]) p.2 else some (acc, l)
def rnames (l : List UInt8) : Option (List S71 × List RIt) := (rnSyms (l.length + 1) [] l).bind fun p => (rnFuns (p.2.length + 1) [] p.2).bind fun q => if q.2 = [] then some (p.1, q.1) else none
def rbods (a b : List ByteArray) : List RIt → Option (List S52)
 | [] => some []
 | i :: r => (tmRG (rhdR a b) i.body).bind fun p => if Lib.hasPrefix p.2 [10] = true then (rbods a b r).map (⟨i.nm, i.s, p.1⟩ :: ·) else none
def rgetV (l : List UInt8) : Option (List S71 × List S52) := (rnames l).bind fun p => (rbods (p.1.map (·.f0)) (p.2.map (·.nm)) p.2).map fun F => (p.1, F)
def rgetR (t : ByteArray) : Int × List S71 × List S52 :=
 if 65536 < t.size then (3, [], []) else match rgetV t.data.toList with
  | none => (4, [], [])
  | some (sy, F) => if schB sy F = true then (0, sy, F) else (7, [], [])
theorem nwd32 (r : List UInt8) : ∀ c u, (32 :: r : List UInt8) = c :: u → wch c = false := fun c u h => by cases h; decide
theorem rsymStep_sound {l : List UInt8} {y : S71} {r : List UInt8} (h : rsymStep l = some (y, r)) : yok y = true ∧ l = y.f0.data.toList ++ 32 :: (dg y.f1.toNat ++ 10 :: r) := by
 unfold rsymStep at h
 split at h
 ·rename_i hc
  obtain ⟨h1, h2⟩ := hc
  have e0 := takeWhile_split wch l
  have e1 := hp_split h2
  simp only [l8_, List.length_nil] at e1
  generalize l.takeWhile wch = nm at *
  generalize l.drop nm.length = m at *
  split at h
  ·rename_i hc2
   obtain ⟨h3, h4⟩ := hc2
   obtain ⟨n, hn, k1, k2, k3⟩ := rnum_sound h3
   have e2 := hp_split h4
   simp only [l8_, List.length_nil] at e2
   simp only [Option.some.injEq, Prod.mk.injEq] at h
   obtain ⟨rfl, rfl⟩ := h
   refine ⟨?_, ?_⟩
   ·unfold yok
    simp only [h1, k3]
    simp; omega
   ·simp only [k3, l14_]
    rw [e0, e1, show (0 + 1) = 1 from rfl]
    simp only [List.cons_append, List.nil_append]
    congr 1
    congr 1
    rw [show (0 + 1) = 1 from rfl] at e2
    conv => lhs; rw [k2, e2]
    simp
  ·cases h
 ·cases h
theorem rsymStep_full {y : S71} (h : yok y = true) (r : List UInt8) : rsymStep (y.f0.data.toList ++ 32 :: (dg y.f1.toNat ++ 10 :: r)) = some (y, r) := by
 unfold yok at h
 simp only [l21_, l22_] at h
 obtain ⟨n, hn⟩ := Int.eq_ofNat_of_zero_le h.1.2
 have ht := takeWhile_app (p := wch) (nameB_wch h.1.1) (nwd32 (dg y.f1.toNat ++ 10 :: r))
 have hd := rnum_full (n := n) (by omega) (r := 10 :: r) (fun c u e => by cases e; decide)
 unfold rsymStep
 rw [ht, List.drop_left, ba_list, if_pos ⟨h.1.1, by rw [hp_one]; decide⟩, hn, l14_]
 simp only [List.drop_succ_cons, List.drop_zero]
 rw [hd.2, List.drop_left, if_pos ⟨hd.1, by rw [hp_one]; decide⟩, rval_dg, ← hn]
 rfl
theorem rnSyms_sound (n : Nat) : ∀ (acc : List S71) (l : List UInt8) (sy : List S71) (r : List UInt8), rnSyms n acc l = some (sy, r) → ∃ s2, sy = acc ++ s2 ∧ (∀ y ∈ s2, yok y = true) ∧ l = (s2.map symB).flatMap endL ++ r ∧ Lib.hasPrefix r pSym = false := by
 induction n with
 | zero => intro acc l sy r h; simp [rnSyms] at h
 | succ n ih =>
  intro acc l sy r h
  rw [rnSyms] at h
  split at h
  ·rename_i q
   obtain ⟨⟨y, r1⟩, h1, h⟩ := Option.bind_eq_some_iff.1 h
   obtain ⟨k1, k2⟩ := rsymStep_sound h1
   obtain ⟨s2, rfl, j1, j2, j3⟩ := ih _ _ _ _ h
   refine ⟨y :: s2, by simp, ?_, ?_, j3⟩
   ·intro z hz
    rcases List.mem_cons.1 hz with rfl | hz
    ·exact k1
    ·exact j1 z hz
   ·have e := hp_split q
    rw [e, show pSym.length = 7 from rfl, k2]
    simp only at j2
    rw [j2, List.map_cons, List.flatMap_cons]
    unfold symB endL
    simp
  ·rename_i q
   simp only [Option.some.injEq, Prod.mk.injEq] at h
   obtain ⟨rfl, rfl⟩ := h
   exact ⟨[], by simp, by simp, rfl, by simpa using q⟩
theorem rnSyms_full : ∀ (s2 : List S71) (n : Nat) (acc : List S71) (r : List UInt8), (∀ y ∈ s2, yok y = true) → Lib.hasPrefix r pSym = false → ((s2.map symB).flatMap endL ++ r).length < n → rnSyms n acc ((s2.map symB).flatMap endL ++ r) = some (acc ++ s2, r) := by
 intro s2
 induction s2 with
 | nil =>
  intro n acc r _ hr hn
  cases n with
  | zero => omega
  | succ n =>
   rw [List.map_nil, List.flatMap_nil, List.nil_append, rnSyms, if_neg (by rw [hr]; exact l16_), List.append_nil]
 | cons y s2 ih =>
  intro n acc r hy hr hn
  cases n with
  | zero => omega
  | succ n =>
   have e : (((y :: s2).map symB).flatMap endL ++ r : List UInt8) = pSym ++ (y.f0.data.toList ++ 32 :: (dg y.f1.toNat ++ 10 :: ((s2.map symB).flatMap endL ++ r))) := by
    rw [List.map_cons, List.flatMap_cons]; unfold symB endL; simp
   rw [e] at hn ⊢
   rw [rnSyms, if_pos (hp_app _ _), show (pSym ++ (y.f0.data.toList ++ 32 :: (dg y.f1.toNat ++ 10 :: ((s2.map symB).flatMap endL ++ r)))).drop 7 = y.f0.data.toList ++ 32 :: (dg y.f1.toNat ++ 10 :: ((s2.map symB).flatMap endL ++ r)) from List.drop_left' rfl, rsymStep_full (hy y (l19_ ..))]
   simp only [l23_]
   rw [ih n _ r (fun z hz => hy z (l20_ _ hz)) hr (by simp only [l7_, l8_] at hn ⊢; omega)]
   simp
theorem dropWhile_app {p : UInt8 → Bool} {x : List UInt8} {c : UInt8} {r : List UInt8} (hx : ∀ c ∈ x, p c = true) (hc : p c = false) : (x ++ c :: r).dropWhile p = c :: r := by
 induction x with
 | nil => rw [List.nil_append, List.dropWhile_cons, hc]; rfl
 | cons a x ih => rw [List.cons_append, List.dropWhile_cons, hx a (l19_ ..)]; simp only [if_true]; exact ih fun c hc => hx c (l20_ _ hc)
theorem dropWhile_ne {p : UInt8 → Bool} {l : List UInt8} (h : l.dropWhile p ≠ []) : ∃ x c r, l = x ++ c :: r ∧ (∀ c ∈ x, p c = true) ∧ p c = false ∧ l.dropWhile p = c :: r := by
 induction l with
 | nil => exact absurd rfl h
 | cons a l ih =>
  rw [List.dropWhile_cons] at h ⊢
  cases q : p a with
  | true =>
   rw [q] at h
   simp only [if_true] at h ⊢
   obtain ⟨x, c, r, e, h1, h2, h3⟩ := ih h
   refine ⟨a :: x, c, r, by rw [e]; rfl, ?_, h2, h3⟩
   intro c hc
   rcases List.mem_cons.1 hc with rfl | hc
   ·exact q
   ·exact h1 c hc
  | false => exact ⟨[], a, l, rfl, by simp, q, by simp⟩
theorem ne10_ne {c : UInt8} (h : ne10 c = true) : c ≠ 10 := by unfold ne10 at h; exact l0_ h
theorem ne10_eq {c : UInt8} (h : ne10 c = false) : c = 10 := by
 unfold ne10 at h
 have := of_decide_eq_false h
 exact Decidable.not_not.1 this
theorem not10_all {l : List UInt8} (h : (10 : UInt8) ∉ l) : ∀ c ∈ l, ne10 c = true := fun c hc => l2_ fun e => h (e ▸ hc)
theorem rfunStep_sound {l : List UInt8} {p : RIt} {r : List UInt8} (h : rfunStep l = some (p, r)) :
  ∃ i : It, nameB i.nm = true ∧ (10 : UInt8) ∉ i.b.data.toList ∧ p = ⟨i.nm, i.s, i.b.data.toList ++ 10 :: r⟩ ∧ l = i.nm.data.toList ++ 32 :: 58 :: 32 :: (srtS i.s ++ 32 :: 61 :: 32 :: (i.b.data.toList ++ 10 :: r)) := by
 unfold rfunStep at h
 split at h
 ·rename_i hc
  obtain ⟨h1, h2⟩ := hc
  have e0 := takeWhile_split wch l
  have e1 := hp_split h2
  simp only [l8_, List.length_nil] at e1
  generalize l.takeWhile wch = nm at *
  generalize l.drop nm.length = m at *
  obtain ⟨⟨s, r1⟩, k1, h⟩ := Option.bind_eq_some_iff.1 h
  obtain ⟨k2, _⟩ := srtR_sound k1
  simp only at h
  split at h
  ·rename_i h3
   have e2 := hp_split h3
   simp only [l8_, List.length_nil] at e2
   rw [show (0 + 1 + 1 + 1) = 3 from rfl] at e1 e2
   split at h
   ·cases h
   ·rename_i h4
    simp only [Option.some.injEq, Prod.mk.injEq] at h
    obtain ⟨rfl, rfl⟩ := h
    generalize hb : r1.drop 3 = body at *
    have e3 : r1.dropWhile ne10 = body.dropWhile ne10 := by
     rw [e2]
     simp only [List.cons_append, List.nil_append]
     rw [List.dropWhile_cons, if_pos (by decide), List.dropWhile_cons, if_pos (by decide), List.dropWhile_cons, if_pos (by decide)]
    rw [e3] at h4 ⊢
    obtain ⟨x, c, u, e4, j1, j2, j3⟩ := dropWhile_ne h4
    obtain rfl := ne10_eq j2
    refine ⟨⟨⟨nm.toArray⟩, s, ⟨x.toArray⟩⟩, h1, fun hm => ne10_ne (j1 _ hm) rfl, ?_, ?_⟩
    ·rw [j3, e4]; rfl
    ·rw [j3, e0, e1, k2, e2, e4]
     simp
  ·cases h
 ·cases h
theorem rfunStep_full {i : It} (h : nameB i.nm = true) (hb : (10 : UInt8) ∉ i.b.data.toList) (r : List UInt8) :
  rfunStep (i.nm.data.toList ++ 32 :: 58 :: 32 :: (srtS i.s ++ 32 :: 61 :: 32 :: (i.b.data.toList ++ 10 :: r))) = some (⟨i.nm, i.s, i.b.data.toList ++ 10 :: r⟩, r) := by
 have ht := takeWhile_app (p := wch) (nameB_wch h) (nwd32 (58 :: 32 :: (srtS i.s ++ 32 :: 61 :: 32 :: (i.b.data.toList ++ 10 :: r))))
 unfold rfunStep
 rw [ht, List.drop_left, ba_list, if_pos ⟨h, hp_app [32, 58, 32] _⟩]
 simp only [List.drop_succ_cons, List.drop_zero]
 rw [srtR_full i.s (by rfl)]
 simp only [l23_]
 rw [if_pos (show Lib.hasPrefix (32 :: 61 :: 32 :: (i.b.data.toList ++ 10 :: r)) [32, 61, 32] = true from hp_app [32, 61, 32] _)]
 have e : (32 :: 61 :: 32 :: (i.b.data.toList ++ 10 :: r)).dropWhile ne10 = 10 :: r := by
  rw [List.dropWhile_cons, if_pos (by decide), List.dropWhile_cons, if_pos (by decide), List.dropWhile_cons, if_pos (by decide)]
  exact dropWhile_app (not10_all hb) (by decide)
 rw [e, if_neg (by simp)]
 simp
def rsuf : List It → List UInt8 → List RIt
 | [], _ => []
 | i :: t, r => ⟨i.nm, i.s, i.b.data.toList ++ 10 :: ((t.map funB).flatMap endL ++ r)⟩ :: rsuf t r
theorem rnFuns_sound (n : Nat) : ∀ (acc : List RIt) (l : List UInt8) (q : List RIt) (r : List UInt8), rnFuns n acc l = some (q, r) →
  ∃ its, q = acc ++ rsuf its r ∧ (∀ i ∈ its, nameB i.nm = true ∧ (10 : UInt8) ∉ i.b.data.toList) ∧ l = (its.map funB).flatMap endL ++ r ∧ Lib.hasPrefix r pFun = false := by
 induction n with
 | zero => intro acc l q r h; simp [rnFuns] at h
 | succ n ih =>
  intro acc l q r h
  rw [rnFuns] at h
  split at h
  ·rename_i hp
   obtain ⟨⟨p, r1⟩, h1, h⟩ := Option.bind_eq_some_iff.1 h
   obtain ⟨i, k1, k2, k3, k4⟩ := rfunStep_sound h1
   obtain ⟨its, rfl, j1, j2, j3⟩ := ih _ _ _ _ h
   simp only at j2
   refine ⟨i :: its, ?_, ?_, ?_, j3⟩
   ·rw [rsuf, k3, ← j2]; simp
   ·intro z hz
    rcases List.mem_cons.1 hz with rfl | hz
    ·exact ⟨k1, k2⟩
    ·exact j1 z hz
   ·have e := hp_split hp
    rw [e, show pFun.length = 4 from rfl, k4, j2, List.map_cons, List.flatMap_cons]
    unfold funB endL
    simp
  ·rename_i hp
   simp only [Option.some.injEq, Prod.mk.injEq] at h
   obtain ⟨rfl, rfl⟩ := h
   exact ⟨[], by simp [rsuf], by simp, rfl, by simpa using hp⟩
theorem rnFuns_full : ∀ (its : List It) (n : Nat) (acc : List RIt) (r : List UInt8), (∀ i ∈ its, nameB i.nm = true ∧ (10 : UInt8) ∉ i.b.data.toList) → Lib.hasPrefix r pFun = false → ((its.map funB).flatMap endL ++ r).length < n →
  rnFuns n acc ((its.map funB).flatMap endL ++ r) = some (acc ++ rsuf its r, r) := by
 intro its
 induction its with
 | nil =>
  intro n acc r _ hr hn
  cases n with
  | zero => omega
  | succ n =>
   rw [List.map_nil, List.flatMap_nil, List.nil_append, rnFuns, if_neg (by rw [hr]; exact l16_), rsuf, List.append_nil]
 | cons i its ih =>
  intro n acc r hi hr hn
  cases n with
  | zero => omega
  | succ n =>
   have e : (((i :: its).map funB).flatMap endL ++ r : List UInt8) = pFun ++ (i.nm.data.toList ++ 32 :: 58 :: 32 :: (srtS i.s ++ 32 :: 61 :: 32 :: (i.b.data.toList ++ 10 :: ((its.map funB).flatMap endL ++ r)))) := by
    rw [List.map_cons, List.flatMap_cons]; unfold funB endL; simp
   have hi0 := hi i (l19_ ..)
   rw [e] at hn ⊢
   rw [rnFuns, if_pos (hp_app _ _), show (pFun ++ (i.nm.data.toList ++ 32 :: 58 :: 32 :: (srtS i.s ++ 32 :: 61 :: 32 :: (i.b.data.toList ++ 10 :: ((its.map funB).flatMap endL ++ r))))).drop 4 = _ from List.drop_left' rfl, rfunStep_full hi0.1 hi0.2]
   simp only [l23_]
   rw [ih n _ r (fun z hz => hi z (l20_ _ hz)) hr (by simp only [l7_, l8_] at hn ⊢; omega), rsuf]
   simp
theorem cut10 {p q r s : List UInt8} (hp : (10 : UInt8) ∉ p) (hq : (10 : UInt8) ∉ q) (h : p ++ 10 :: r = q ++ 10 :: s) : p = q ∧ r = s := by
 have h1 := cut_hit (r := r) hp
 rw [h, cut_hit hq] at h1
 simp only [Prod.mk.injEq, and_true] at h1
 exact ⟨h1.1.symm, h1.2.symm⟩
theorem rbods_sound {a b : List ByteArray} (ha : ∀ x ∈ a, nameB x = true) (hb : ∀ x ∈ b, nameB x = true) : ∀ (its : List It) (r : List UInt8) (F : List S52), (∀ i ∈ its, (10 : UInt8) ∉ i.b.data.toList) → rbods a b (rsuf its r) = some F →
  F.map (fun f => (⟨f.f0, f.f1, ⟨(trmS (hsN a b) f.f2).toArray⟩⟩ : It)) = its ∧ ∀ f ∈ F, tAll (hsOk a b) f.f2 = true := by
 intro its
 induction its with
 | nil =>
  intro r F _ h
  have : F = [] := by simpa [rsuf, rbods] using h.symm
  subst this
  exact ⟨rfl, by simp⟩
 | cons i t ih =>
  intro r F hi h
  rw [rsuf, rbods] at h
  obtain ⟨⟨u, r1⟩, h1, h⟩ := Option.bind_eq_some_iff.1 h
  simp only at h
  split at h
  ·rename_i hp
   obtain ⟨F2, h2, rfl⟩ := Option.map_eq_some_iff.1 h
   obtain ⟨k1, k2⟩ := ih r F2 (fun z hz => hi z (l20_ _ hz)) h2
   obtain ⟨e, hok, _⟩ := tmRG_sound (rhdR_G a b ha hb) h1
   have e2 := hp_split hp
   simp only at e
   rw [e2] at e
   obtain ⟨e3, _⟩ := cut10 (hi i (l19_ ..)) (trmS_10 hok) e
   refine ⟨?_, ?_⟩
   ·rw [List.map_cons, k1]
    congr 1
    rw [← e3, ba_list]
   ·intro f hf
    rcases List.mem_cons.1 hf with rfl | hf
    ·exact hok
    ·exact k2 f hf
  ·cases h
theorem rbods_full {a b : List ByteArray} (ha : ∀ x ∈ a, nameB x = true) (hb : ∀ x ∈ b, nameB x = true) : ∀ (F : List S52) (r : List UInt8), (∀ f ∈ F, tAll (hsOk a b) f.f2 = true) →
  rbods a b (rsuf (F.map (fun f => (⟨f.f0, f.f1, ⟨(trmS (hsN a b) f.f2).toArray⟩⟩ : It))) r) = some F := by
 intro F
 induction F with
 | nil => intro r _; rfl
 | cons f t ih =>
  intro r h
  rw [List.map_cons, rsuf, rbods]
  simp only
  rw [tmRG_full (rhdR_G a b ha hb) (h f (l19_ ..)) (by rw [hp_one]; decide) (fun c u e => by cases e; decide)]
  simp only [l23_]
  rw [if_pos (by rw [hp_one]; decide), ih r (fun g hg => h g (l20_ _ hg))]
  rfl
theorem rsuf_nm (its : List It) (r : List UInt8) : (rsuf its r).map (·.nm) = its.map (·.nm) := by
 induction its with
 | nil => rfl
 | cons i t ih => rw [rsuf, List.map_cons, List.map_cons, ih]
theorem funs_sym (its : List It) : Lib.hasPrefix ((its.map funB).flatMap endL ++ []) pSym = false := by
 cases its with
 | nil => rfl
 | cons i t =>
  rw [List.map_cons, List.flatMap_cons]
  unfold funB endL pFun pSym Lib.hasPrefix
  simp [List.isPrefixOf]
theorem yok_names {sy : List S71} (k1 : ∀ y ∈ sy, yok y = true) : ∀ x ∈ sy.map (·.f0), nameB x = true := by
 intro x hx
 obtain ⟨y, hy, rfl⟩ := List.mem_map.1 hx
 have := k1 y hy
 unfold yok at this
 simp only [l21_] at this
 exact this.1.1
theorem rgetV_iff {l : List UInt8} {sy : List S71} {F : List S52} : rgetV l = some (sy, F) ↔ Txt sy F ∧ l = putN sy F := by
 unfold rgetV rnames
 constructor
 ·intro h
  obtain ⟨⟨sy2, q⟩, h0, h⟩ := Option.bind_eq_some_iff.1 h
  obtain ⟨⟨sy3, r1⟩, h1, h0⟩ := Option.bind_eq_some_iff.1 h0
  obtain ⟨⟨q2, r2⟩, h2, h0⟩ := Option.bind_eq_some_iff.1 h0
  simp only at h0 h2
  split at h0
  ·rename_i hr2
   simp only [Option.some.injEq, Prod.mk.injEq] at h0
   obtain ⟨rfl, rfl⟩ := h0
   subst hr2
   obtain ⟨s2, e1, k1, k2, _⟩ := rnSyms_sound _ _ _ _ _ h1
   rw [List.nil_append] at e1
   subst e1
   obtain ⟨its, e2, j1, j2, _⟩ := rnFuns_sound _ _ _ _ _ h2
   rw [List.nil_append] at e2
   subst e2
   obtain ⟨F2, h3, h⟩ := Option.map_eq_some_iff.1 h
   simp only [Prod.mk.injEq] at h
   obtain ⟨rfl, rfl⟩ := h
   simp only at h3
   rw [rsuf_nm] at h3
   have hnm : ∀ x ∈ its.map (·.nm), nameB x = true := by
    intro x hx
    obtain ⟨i, hi, rfl⟩ := List.mem_map.1 hx
    exact (j1 i hi).1
   have hsyn := yok_names k1
   obtain ⟨i1, i2⟩ := rbods_sound hsyn hnm its [] F2 (fun i hi => (j1 i hi).2) h3
   have hb : its.map (·.nm) = F2.map (·.f0) := by
    conv => lhs; rw [← i1]
    rw [List.map_map]; rfl
   rw [hb] at i1 i2
   refine ⟨⟨k1, fun f hf => ?_, i2⟩, ?_⟩
   ·have : f.f0 ∈ its.map (·.nm) := by rw [hb]; exact List.mem_map.2 ⟨f, hf, rfl⟩
    exact hnm _ this
   ·rw [k2, j2, List.append_nil]
    conv => lhs; rw [← i1]
    unfold putN
    rw [List.map_map, List.flatMap_append]; rfl
  ·cases h0
 ·rintro ⟨hT, rfl⟩
  have hnm : ∀ x ∈ F.map (·.f0), nameB x = true := by
   intro x hx
   obtain ⟨f, hf, rfl⟩ := List.mem_map.1 hx
   exact hT.nm f hf
  have hsyn : ∀ x ∈ sy.map (·.f0), nameB x = true := by
   intro x hx
   obtain ⟨y, hy, rfl⟩ := List.mem_map.1 hx
   have := hT.so y hy
   unfold yok at this
   simp only [l21_] at this
   exact this.1.1
  have hrb := rbods_full hsyn hnm F [] hT.bd
  generalize hits : F.map (fun f => (⟨f.f0, f.f1, ⟨(trmS (hsN (sy.map (·.f0)) (F.map (·.f0))) f.f2).toArray⟩⟩ : It)) = its at *
  have e : putN sy F = (sy.map symB).flatMap endL ++ ((its.map funB).flatMap endL ++ []) := by
   rw [← hits, List.append_nil]
   unfold putN
   rw [List.map_map, List.flatMap_append]; rfl
  have hits2 : ∀ i ∈ its, nameB i.nm = true ∧ (10 : UInt8) ∉ i.b.data.toList := by
   intro i hi
   rw [← hits] at hi
   obtain ⟨f, hf, rfl⟩ := List.mem_map.1 hi
   exact ⟨hT.nm f hf, trmS_10 (hT.bd f hf)⟩
  have hb : its.map (·.nm) = F.map (·.f0) := by
   rw [← hits, List.map_map]; rfl
  rw [e, rnSyms_full sy _ [] _ hT.so (funs_sym its) (Nat.lt_succ_self _)]
  simp only [l23_, List.nil_append]
  rw [rnFuns_full its _ [] [] hits2 rfl (Nat.lt_succ_self _)]
  simp only [l23_, List.nil_append, if_true]
  rw [rsuf_nm, hb, hrb]
  rfl
theorem getR3_eq (t : ByteArray) : getR3 t = rgetR t := by
 unfold getR3 rgetR
 by_cases hs : 65536 < t.size
 ·rw [if_pos hs, if_pos hs]
 ·rw [if_neg hs, if_neg hs]
  cases h : rgetV t.data.toList with
  | none =>
   cases h2 : getV3 t with
   | none => rfl
   | some p =>
    obtain ⟨sy, fs, large⟩ := p
    obtain ⟨F, h3, h4, _, _⟩ := (getV3_iff (by omega)).1 h2
    rw [rgetV_iff.2 ⟨h3, h4⟩] at h
    cases h
  | some p =>
   obtain ⟨sy, F⟩ := p
   obtain ⟨h3, h4⟩ := rgetV_iff.1 h
   rw [(getV3_iff (by omega)).2 ⟨F, h3, h4, rfl, rfl⟩]
   simp only
   by_cases hB : schB sy F = true
   ·rw [if_pos hB, schB_large hB, large_raw (schB_large hB), if_neg (by rw [schV_good hB]; simp)]
   ·rw [if_neg hB]
    by_cases hl : largeF F = true
    ·rw [if_pos (.inl hl)]
    ·have hl2 : largeF F = false := by simpa using hl
     rw [large_raw hl2, if_pos (.inr (by rw [schV_bad (by simpa using hB)]; decide))]
theorem getR3_good {t : ByteArray} {sy : List S71} {fs : List S52} (h : getR3 t = (0, sy, fs)) : t.size ≤ 65536 ∧ Txt sy fs ∧ t.data.toList = putN sy fs ∧ schB sy fs = true := by
 unfold getR3 at h
 by_cases hs : 65536 < t.size
 ·rw [if_pos hs] at h
  simp at h
 ·rw [if_neg hs] at h
  cases hv : getV3 t with
  | none => rw [hv] at h; simp at h
  | some p =>
   obtain ⟨sy2, fs2, large⟩ := p
   rw [hv] at h
   simp only at h
   split at h
   ·simp at h
   ·rename_i hn
    simp only [Prod.mk.injEq, true_and] at h
    obtain ⟨rfl, rfl⟩ := h
    obtain ⟨F, hT, ht, rfl, rfl⟩ := (getV3_iff (by omega)).1 hv
    have hl : largeF F = false := by
     cases e : largeF F with
     | false => rfl
     | true => exact absurd (.inl e) hn
    rw [large_raw hl] at hn ⊢
    refine ⟨by omega, hT, ht, ?_⟩
    cases e : schB sy2 F with
    | true => rfl
    | false => exact absurd (.inr (by rw [schV_bad e]; decide)) hn
theorem getR3_none {t : ByteArray} (h : (getR3 t).1 ≠ 0) : (getR3 t).2.1 = [] ∧ (getR3 t).2.2 = [] := by
 unfold getR3 at h ⊢
 split
 ·exact ⟨rfl, rfl⟩
 ·rename_i hs
  rw [if_neg hs] at h
  cases hv : getV3 t with
  | none => exact ⟨rfl, rfl⟩
  | some p =>
   obtain ⟨sy2, fs2, large⟩ := p
   rw [hv] at h
   simp only at h ⊢
   split
   ·exact ⟨rfl, rfl⟩
   ·rename_i hn
    rw [if_neg hn] at h
    exact absurd rfl h
theorem schB_small {sy : List S71} {fs : List S52} (h : schB sy fs = true) : (∀ f ∈ fs, sN f.f1 ≤ 1000000 ∧ tN f.f2 ≤ 1000000) ∧ sy.length ≤ 1000000 ∧ fs.length ≤ 1000000 := by
 have hok := scOk h
 refine ⟨fun f hf => ⟨?_, ?_⟩, ?_, ?_⟩
 ·have := srtB_N (hok.srt f hf).1; omega
 ·have := (hok.bod f hf).1; omega
 ·have := hok.ny; omega
 ·have := hok.nf; omega
set_option maxHeartbeats 16000000 in
set_option maxRecDepth 100000 in
theorem rsameS_calls (sy : List S71) (fs : List S52) (A1 A2 B1 B2 : Option Addr) (c1 c2 d1 d2 : Nat) (w : World) (hS : Kd.C k71 w A1 sy.length sy) (hF : Kd.C k52 w A2 fs.length fs) (hS2 : Kd.C k71 w B1 sy.length sy) (hF2 : Kd.C k52 w B2 fs.length fs)
  (hc1 : sy.length ≤ c1) (hc2 : fs.length ≤ c2) (hd1 : sy.length ≤ d1) (hd2 : fs.length ≤ d2) (hv : schB sy fs = true) :
  Calls Tryz.prog 23 #[.agg #[.slice A1 sy.length c1, .slice A2 fs.length c2], .agg #[.slice B1 sy.length d1, .slice B2 fs.length d2]] w fun E w' => E = .returned (.bool true) ∧ Below w.heap.size w w' := by
 have H1 := mk0 fun W (hW : Below w.heap.size w W) => risch_calls sy fs A1 A2 c1 c2 W (Kd.C_below hS hW) (Kd.C_below hF hW) hc1 hc2
 have H2 := mk0 fun W (hW : Below w.heap.size w W) => risch_calls sy fs B1 B2 d1 d2 W (Kd.C_below hS2 hW) (Kd.C_below hF2 hW) hd1 hd2
 have H3 := mk0 fun W (hW : Below w.heap.size w W) => requalS_calls sy fs A1 A2 B1 B2 c1 c2 d1 d2 W (Kd.C_below hS hW) (Kd.C_below hF hW) (Kd.C_below hS2 hW) (Kd.C_below hF2 hW) (schB_small hv).1 (schB_small hv).2.1 (schB_small hv).2.2
 rw [hv] at H1 H2
 have HB := mk0 (BX.start w (.slice A1 sy.length c1) (.slice A2 fs.length c2) (.slice B1 sy.length d1) (.slice B2 fs.length d2))
 clear hS hF hS2 hF2 hc1 hc2 hd1 hd2 hv
 go_enter Tryz.func23, Tryz.ntmps23
 go_upto_region 1 with (fail)
 generalize ((w.alloc (.cells #[.slice A1 sy.length c1, .slice A2 fs.length c2] 25)).alloc (.cells #[.slice B1 sy.length d1, .slice B2 fs.length d2] 25)) = W1 at *
 obtain ⟨⟨p0, p1⟩, q0, q1⟩ := (HB.out).cells
 go_wp2_with fail
 refine (H1.out _ (HB.out).hb).mono ?_
 rintro E W2 ⟨rfl, hb⟩
 have HB2 := mk0 ((HB.out).below hb)
 clear hb p0 p1 q0 q1 HB H1
 obtain ⟨⟨p0, p1⟩, q0, q1⟩ := (HB2.out).cells
 go_wp2_with fail
 refine (H2.out _ (HB2.out).hb).mono ?_
 rintro E W3 ⟨rfl, hb⟩
 have HB3 := mk0 ((HB2.out).below hb)
 clear hb p0 p1 q0 q1 HB2 H2
 obtain ⟨⟨p0, p1⟩, q0, q1⟩ := (HB3.out).cells
 go_wp2_with fail
 refine (H3.out _ (HB3.out).hb).mono ?_
 rintro E W4 ⟨rfl, hb⟩
 have HB4 := mk0 ((HB3.out).below hb)
 clear hb p0 p1 q0 q1 HB3 H3
 go_wp2
 go_ret
 exact ⟨rfl, (HB4.out).hb⟩
set_option maxHeartbeats 4000000 in
set_option maxRecDepth 100000 in
theorem is3_calls (sy : List S71) (fs : List S52) (e : Int) (A1 A2 B1 B2 : Option Addr) (c1 c2 d1 d2 : Nat) (w : World) (hS : Kd.C k71 w A1 sy.length sy) (hF : Kd.C k52 w A2 fs.length fs) (hS2 : Kd.C k71 w B1 sy.length sy) (hF2 : Kd.C k52 w B2 fs.length fs)
  (hc1 : sy.length ≤ c1) (hc2 : fs.length ≤ c2) (hd1 : sy.length ≤ d1) (hd2 : fs.length ≤ d2) (hv : e = 0 → schB sy fs = true) (he : e ≠ 0 → sy = [] ∧ fs = []) :
  Calls Tryz.prog 21 #[.agg #[.slice A1 sy.length c1, .slice A2 fs.length c2], .int .i64 e, .agg #[.slice B1 sy.length d1, .slice B2 fs.length d2], .int .i64 e] w fun E w' => E = .returned (.bool true) ∧ Below w.heap.size w w' := by
 have HB := mk0 (aA_ (aA_ (Below.refl w.heap.size w) (.cells #[.slice A1 sy.length c1, .slice A2 fs.length c2] 25)) (.cells #[.slice B1 sy.length d1, .slice B2 fs.length d2] 25))
 have HX1 := mk0 (aE_ (aS_ w (.cells #[.slice A1 sy.length c1, .slice A2 fs.length c2] 25)) (.cells #[.slice B1 sy.length d1, .slice B2 fs.length d2] 25))
 have HX2 := mk0 (blk_at2 w (.cells #[.slice A1 sy.length c1, .slice A2 fs.length c2] 25) (.cells #[.slice B1 sy.length d1, .slice B2 fs.length d2] 25))
 have HSA := mk0 fun (hv : schB sy fs = true) W (hW : Below w.heap.size w W) => rsameS_calls sy fs A1 A2 B1 B2 c1 c2 d1 d2 W (Kd.C_below hS hW) (Kd.C_below hF hW) (Kd.C_below hS2 hW) (Kd.C_below hF2 hW) hc1 hc2 hd1 hd2 hv
 have HV := mk0 hv
 have HE := mk0 he
 clear hS hF hS2 hF2 hc1 hc2 hd1 hd2 hv he
 go_enter Tryz.func21, Tryz.ntmps21
 go_upto_region 1 with (fail)
 generalize ((w.alloc (.cells #[.slice A1 sy.length c1, .slice A2 fs.length c2] 25)).alloc (.cells #[.slice B1 sy.length d1, .slice B2 fs.length d2] 25)) = W1 at *
 have k0 : W1.cell? ⟨w.heap.size, 0, none⟩ = some (.slice A1 sy.length c1) := (aC_ HX1.out 0).trans rfl
 have k1 : W1.cell? ⟨w.heap.size, 1, none⟩ = some (.slice A2 fs.length c2) := (aC_ HX1.out 1).trans rfl
 have k2 : W1.cell? ⟨w.heap.size + 1, 0, none⟩ = some (.slice B1 sy.length d1) := (aC_ HX2.out 0).trans rfl
 have k3 : W1.cell? ⟨w.heap.size + 1, 1, none⟩ = some (.slice B2 fs.length d2) := (aC_ HX2.out 1).trans rfl
 by_cases h0 : e = 0
 ·subst h0
  have HC := mk0 (HSA.out (HV.out rfl) W1 HB.out)
  go_wp2_with fail
  refine (HC.out).mono ?_
  rintro E W2 ⟨rfl, hb⟩
  have HB2 := mk0 (aL_ HB.out (HB.out).size hb)
  clear hb
  go_wp2
  go_ret
  exact ⟨rfl, HB2.out⟩
 ·obtain ⟨rfl, rfl⟩ := HE.out h0
  have hq : (e == 0) = false := by simpa using h0
  go_wp2
  go_ret
  have hq2 : (e != 0) = true := by simpa using h0
  exact ⟨by show Ending.returned (.bool (e != 0)) = _; rw [hq2], HB.out⟩
theorem ext_list (s : ByteArray) (a b : Nat) : (s.extract a b).data.toList = (s.data.toList.drop a).take (b - a) := by
 rw [ByteArray.data_extract, Array.toList_extract, List.extract_eq_take_drop]
theorem hp_take (l p : List UInt8) : Lib.hasPrefix l p = (l.take p.length == p) := by
 unfold Lib.hasPrefix
 rw [Bool.eq_iff_iff, List.isPrefixOf_iff_prefix, beq_iff_eq, List.prefix_iff_eq_take]
 exact eq_comm
theorem begins_plain (s : ByteArray) {p : Nat} (hp : p ≤ s.size) (hs : s.size ≤ 100000) (what : ByteArray) (hw : what.size ≤ 100) :
  (if (wrap64 ((s.size : Int) - (p : Int))) ≥ (what.size : Int) then (if 0 ≤ (p : Int) then (if (p : Int) ≤ (wrap64 ((p : Int) + (what.size : Int))) then (if (wrap64 ((p : Int) + (what.size : Int))) ≤ (s.size : Int) then (some ((s.extract (p : Int).toNat ((wrap64 ((p : Int) + (what.size : Int))) : Int).toNat).toList == what.toList)) else (none)) else (none)) else (none)) else (some false)) = some (Lib.hasPrefix (s.data.toList.drop p) what.data.toList) := by
 rw [wr_id (x := (s.size : Int) - (p : Int)) (by omega) (by omega), wr_id (x := (p : Int) + (what.size : Int)) (by omega) (by omega)]
 by_cases h : what.size ≤ s.size - p
 ·rw [if_pos (by omega), if_pos (by omega), if_pos (by omega), if_pos (by omega), l14_, show ((p : Int) + (what.size : Int)).toNat = p + what.size by omega, Lib.toList_data, Lib.toList_data, ext_list, hp_take, show p + what.size - p = what.data.toList.length by rw [← Lib.size_eq]; omega]
 ·rw [if_neg (by omega)]
  congr 1
  symm
  rw [Bool.eq_false_iff]
  intro hx
  have := hp_len hx
  rw [l9_, ← Lib.size_eq, ← Lib.size_eq] at this
  omega
theorem begins3_at (s : ByteArray) {p : Nat} (hp : p ≤ s.size) (hs : s.size ≤ 100000) (what : ByteArray) (hw : what.size ≤ 100) : Q.virgationref03_begins.f s (p : Int) what = some (Lib.hasPrefix (s.data.toList.drop p) what.data.toList) := begins_plain s hp hs what hw
theorem begins1_at (s : ByteArray) {p : Nat} (hp : p ≤ s.size) (hs : s.size ≤ 100000) (what : ByteArray) (hw : what.size ≤ 100) : Q.virgationref01_begins.f s (p : Int) what = some (Lib.hasPrefix (s.data.toList.drop p) what.data.toList) := begins_plain s hp hs what hw
theorem word_loop_aux {b : Int} {c : UInt8} (h : b = ((c.toNat : Nat) : Int)) {α : Type} (x y : α) : (if b ≥ 97 then (if b ≤ 122 then x else (if b ≥ 48 then (if b ≤ 57 then x else (if b = 95 then x else y)) else (if b = 95 then x else y))) else (if b ≥ 48 then (if b ≤ 57 then x else (if b = 95 then x else y)) else (if b = 95 then x else y))) = if wch c = true then x else y := by
 unfold wch
 simp only [Bool.or_eq_true, l21_, l22_]
 subst h
 repeat' split
 all_goals first | rfl | (exfalso; omega)
theorem word_ev_aux (s : ByteArray) (hs : s.size ≤ 100000) : ∀ d p : Nat, s.data.toList.length - p = d → p ≤ s.data.toList.length → Ev (fun k => Q.virgationref03_word.l0 k s (p : Int)) ((p + ((s.data.toList.drop p).takeWhile wch).length : Nat) : Int) := by
 intro d
 induction d with
 | zero =>
  intro p hd hp
  refine ev_end fun k => ?_
  simp only [Q.virgationref03_word.l0]
  rw [if_neg (by rw [size_list]; omega), l15_ (by omega)]; rfl
 | succ d ihd =>
  intro p hd hp
  have hlt : p < s.data.toList.length := by omega
  have hs2 := hs
  rw [size_list] at hs2
  have e2 := ihd (p + 1) (by omega) (by omega)
  rw [show ((p + 1 : Nat) : Int) = wrap64 ((p : Int) + 1) from (wrap_succ (i := (p : Int)) (by omega) (by omega)).symm] at e2
  rw [dropS hlt, List.takeWhile_cons]
  refine ev_next (f := fun k => if wch s.data.toList[p] = true then Q.virgationref03_word.l0 k s (wrap64 ((p : Int) + 1)) else some (p : Int)) ?_ fun k => ?_
  ·cases wch s.data.toList[p] with
   | true =>
    simp only [if_true]
    rw [show p + (s.data.toList[p] :: (s.data.toList.drop (p + 1)).takeWhile wch).length = p + 1 + ((s.data.toList.drop (p + 1)).takeWhile wch).length by simp; omega]
    exact e2
   | false => simpa using Ev.now (p : Int)
  ·simp only [Q.virgationref03_word.l0]
   rw [if_pos (by rw [size_list]; omega), if_pos (by omega)]
   exact word_loop_aux (bt_list hlt) _ _
theorem word_ev (s : ByteArray) (hs : s.size ≤ 100000) {p : Nat} (hp : p ≤ s.size) : Ev (fun k => Q.virgationref03_word.f k s (p : Int)) ((p + ((s.data.toList.drop p).takeWhile wch).length : Nat) : Int) := by
 rw [size_list] at hp
 exact word_ev_aux s hs _ p rfl hp
set_option maxRecDepth 100000 in
theorem dch_nat (c : UInt8) : dch c = (decide (48 ≤ c.toNat) && decide (c.toNat ≤ 57)) := by
 have h : ∀ n : Fin 256, dch (UInt8.ofNat n.val) = (decide (48 ≤ (UInt8.ofNat n.val).toNat) && decide ((UInt8.ofNat n.val).toNat ≤ 57)) := by decide
 have := h ⟨c.toNat, UInt8.toNat_lt c⟩
 simpa using this
theorem digit_nat {c : UInt8} (h : dch c = true) : 48 ≤ c.toNat ∧ c.toNat ≤ 57 ∧ Lib.digitVal c = some (c.toNat - 48) := by
 obtain ⟨d, hd, rfl⟩ := digs_to h
 have e := (digs_of hd).2
 have : (UInt8.ofNat (48 + d)).toNat = 48 + d := by simp; omega
 rw [this, e]
 exact ⟨by omega, by omega, by congr 1; omega⟩
theorem rdig_take (l : List UInt8) : rdig l = l.take (rdig l).length ∧ (rdig l).length ≤ 11 ∧ (rdig l).length ≤ l.length := by
 have h4 := takeWhile_split dch (l.take 11)
 have h6 : (rdig l).length ≤ (l.take 11).length := by
  have := congrArg List.length h4
  rw [l7_] at this
  unfold rdig
  omega
 rw [List.length_take] at h6
 refine ⟨?_, by omega, by omega⟩
 have h8 : (l.take 11).take (rdig l).length = rdig l := by
  have : (l.take 11) = rdig l ++ (l.take 11).drop (rdig l).length := h4
  rw [this, List.take_left']
  rfl
 rw [List.take_take, show min (rdig l).length 11 = (rdig l).length by omega] at h8
 exact h8.symm
theorem tw_stop {p : UInt8 → Bool} : ∀ {l : List UInt8} (h : (l.takeWhile p).length < l.length), p (l[(l.takeWhile p).length]) = false
 | a :: l, h => by
  cases q : p a with
  | false => simp only [List.takeWhile_cons, q]; simpa using q
  | true =>
   have hl : (l.takeWhile p).length < l.length := by simpa [List.takeWhile_cons, q] using h
   have := tw_stop hl
   simp only [List.takeWhile_cons, q, if_true, l8_, List.getElem_cons_succ]
   exact this
theorem rdig_stop {l : List UInt8} (h : (rdig l).length < l.length) (h2 : (rdig l).length < 11) : dch (l[(rdig l).length]) = false := by
 unfold rdig at h h2 ⊢
 have h3 : ((l.take 11).takeWhile dch).length < (l.take 11).length := by rw [List.length_take]; omega
 have := tw_stop h3
 rw [List.getElem_take] at this
 exact this
theorem rdig_mem {l : List UInt8} : ∀ x ∈ rdig l, dch x = true := fun x hx => mem_tw hx
theorem dec_bound : ∀ (l : List UInt8), (∀ x ∈ l, dch x = true) → ∃ n, Lib.decFrom 0 l = some n ∧ n < 10 ^ l.length := by
 intro l
 generalize hk : l.length = k
 induction k generalizing l with
 | zero =>
  intro _
  obtain rfl := List.length_eq_zero_iff.1 hk
  exact ⟨0, rfl, by decide⟩
 | succ k ih =>
  intro hd
  have h0 : l ≠ [] := by rintro rfl; cases hk
  obtain ⟨r, x, rfl⟩ : ∃ r x, l = r ++ [x] := ⟨l.dropLast, l.getLast h0, (List.dropLast_concat_getLast h0).symm⟩
  obtain ⟨n, h1, h2⟩ := ih r (by simpa using hk) (fun x hx => hd x (by simp [hx]))
  obtain ⟨k1, k2, k3⟩ := digit_nat (hd x (by simp))
  refine ⟨n * 10 + (x.toNat - 48), decFrom_app _ _ _ k3 0 n h1, ?_⟩
  rw [Nat.pow_succ]
  omega
theorem rval_snoc {l : List UInt8} (h : ∀ x ∈ l, dch x = true) {x : UInt8} (hx : dch x = true) : rval (l ++ [x]) = rval l * 10 + ((x.toNat : Int) - 48) := by
 obtain ⟨n, h1, _⟩ := dec_bound l h
 obtain ⟨k1, k2, k3⟩ := digit_nat hx
 unfold rval
 rw [decFrom_app _ _ _ k3 0 n h1, h1]
 simp only [Option.getD_some]
 omega
theorem rval_bound {l : List UInt8} (h : ∀ x ∈ l, dch x = true) (hl : l.length ≤ 11) : 0 ≤ rval l ∧ rval l < 100000000000 := by
 obtain ⟨n, h1, h2⟩ := dec_bound l h
 have h3 : 10 ^ l.length ≤ 10 ^ 11 := Nat.pow_le_pow_right (by decide) hl
 unfold rval
 rw [h1]
 simp only [Option.getD_some]
 have : (10 : Nat) ^ 11 = 100000000000 := by decide
 omega
def numRes (s : ByteArray) (x1 x7 x8 : Int) : Option (Int × Int × Bool) :=
 if x1 > x8 then (if x7 ≤ 1000000000 then (if x1 = (wrap64 (x8 + 1)) then (some (x7, x1, true)) else (if 0 ≤ x8 then (if x8 < (s.size : Int) then (some (x7, x1, ((bt s x8) != 48))) else (none)) else (none))) else (some (x7, x1, false))) else (some (x7, x1, false))
theorem num_loop_aux {b : Int} {c : UInt8} (h : b = ((c.toNat : Nat) : Int)) {α : Type} {q : Prop} [Decidable q] (x y : α) : (if b ≥ 48 then (if b ≤ 57 then (if q then x else y) else y) else y) = if dch c = true ∧ q then x else y := by
 rw [dch_nat]
 simp only [l21_, l22_]
 subst h
 repeat' split
 all_goals first | rfl | (exfalso; simp_all; done) | (exfalso; simp_all; omega)
theorem numRes_end (s : ByteArray) (hs : s.size ≤ 100000) {p : Nat} (hp : p ≤ s.size) : numRes s ((p + (rdig (s.data.toList.drop p)).length : Nat) : Int) (rval (rdig (s.data.toList.drop p))) (p : Int) = some (rval (rdig (s.data.toList.drop p)), ((p + (rdig (s.data.toList.drop p)).length : Nat) : Int), rnumOk (s.data.toList.drop p)) := by
 obtain ⟨r1, r2, r3⟩ := rdig_take (s.data.toList.drop p)
 rw [l9_, ← Lib.size_eq] at r3
 unfold numRes rnumOk
 rw [wr_id (x := (p : Int) + 1) (by omega) (by omega)]
 cases e : rdig (s.data.toList.drop p) with
 | nil => rw [if_neg (by simp)]; simp
 | cons a r =>
  rw [e] at r1 r2 r3
  rw [if_pos (by simp; omega)]
  have hlt : p < s.data.toList.length := by rw [← Lib.size_eq]; simp only [l8_] at r3; omega
  have ha : s.data.toList[p] = a := by
   have h2 := congrArg List.head? r1
   rw [dropS hlt] at h2
   simp at h2
   exact h2.symm
  by_cases hv : rval (a :: r) ≤ 1000000000
  ·rw [if_pos hv, l2_ hv]
   by_cases h1 : r = []
   ·subst h1
    rw [if_pos (by simp)]
    simp
   ·have hr : 1 ≤ r.length := by cases r with | nil => exact absurd rfl h1 | cons _ _ => simp
    rw [if_neg (by simp; omega), if_pos (by omega), if_pos (by rw [size_list]; omega), bt_list hlt, ha]
    congr 3
    rw [l3_ (show ¬ (a :: r).length = 1 by simp; exact h1)]
    simp only [ne_eq, reduceCtorEq, not_false_eq_true, decide_true, Bool.true_and, Bool.false_or, List.head?_cons, Option.some.injEq]
    by_cases h48 : a = 48
    ·subst h48; rfl
    ·rw [l2_ h48, bne_iff_ne]
     intro hx
     apply h48
     apply UInt8.toNat_inj.1
     have : a.toNat = 48 := by omega
     rw [this]; rfl
  ·rw [if_neg hv, l3_ hv]
   simp
theorem number_ev_aux (s : ByteArray) (hs : s.size ≤ 100000) {p : Nat} (hp : p ≤ s.size) : ∀ d i : Nat, (rdig (s.data.toList.drop p)).length - i = d → i ≤ (rdig (s.data.toList.drop p)).length →
  Ev (fun k => Q.virgationref03_number.l0 k s ((p + i : Nat) : Int) (rval ((rdig (s.data.toList.drop p)).take i)) (p : Int)) (rval (rdig (s.data.toList.drop p)), ((p + (rdig (s.data.toList.drop p)).length : Nat) : Int), rnumOk (s.data.toList.drop p)) := by
 obtain ⟨r1, r2, r3⟩ := rdig_take (s.data.toList.drop p)
 rw [l9_, ← Lib.size_eq] at r3
 have hend := numRes_end s hs hp
 have hst := rdig_stop (l := s.data.toList.drop p)
 have hmem := rdig_mem (l := s.data.toList.drop p)
 have hget : ∀ (i : Nat) (h : i < (rdig (s.data.toList.drop p)).length) (h2 : p + i < s.data.toList.length), (rdig (s.data.toList.drop p))[i] = s.data.toList[p + i] := by
  intro i h h2
  have : (rdig (s.data.toList.drop p))[i]? = s.data.toList[p + i]? := by
   conv => lhs; rw [r1]
   rw [List.getElem?_take_of_lt h, List.getElem?_drop]
  rw [l17_ h, l17_ h2] at this
  exact l13_ this
 generalize hD : rdig (s.data.toList.drop p) = D at *
 have hsz := Lib.size_eq s
 intro d
 induction d with
 | zero =>
  intro i hd hi
  obtain rfl : i = D.length := by omega
  rw [List.take_length]
  refine ev_end fun k => ?_
  rw [← hend]
  simp only [Q.virgationref03_number.l0]
  by_cases hlt : p + D.length < s.size
  ·have hlt2 : p + D.length < s.data.toList.length := by omega
   rw [if_pos (by omega), if_pos (by omega)]
   have e := num_loop_aux (q := wrap64 (((p + D.length : Nat) : Int) - (p : Int)) < 11) (bt_list hlt2) (Q.virgationref03_number.l0 k s (wrap64 (((p + D.length : Nat) : Int) + 1)) (wrap64 ((wrap64 (10 * rval D)) + (((bt s ((p + D.length : Nat) : Int)) - 48) % 256))) (p : Int)) (numRes s ((p + D.length : Nat) : Int) (rval D) (p : Int))
   refine e.trans (if_neg ?_)
   rintro ⟨h1, h2⟩
   rw [wr_id (by omega) (by omega)] at h2
   have h3 := hst (by rw [l9_, ← Lib.size_eq]; omega) (by omega)
   rw [List.getElem_drop] at h3
   rw [h1] at h3
   cases h3
  ·rw [if_neg (by omega)]
   rfl
 | succ d ihd =>
  intro i hd hi
  have hi2 : i < D.length := by omega
  have hlt2 : p + i < s.data.toList.length := by omega
  have hx : dch s.data.toList[p + i] = true := by
   rw [← hget i hi2 hlt2]
   exact hmem _ (l11_ hi2)
  obtain ⟨n1, n2, _⟩ := digit_nat hx
  have hmt : ∀ x ∈ D.take i, dch x = true := fun x hx => hmem x (List.mem_of_mem_take hx)
  have hb := rval_bound hmt (by rw [List.length_take]; omega)
  have e2 := ihd (i + 1) (by omega) (by omega)
  have ev : rval (D.take (i + 1)) = rval (D.take i) * 10 + ((s.data.toList[p + i].toNat : Int) - 48) := by
   rw [List.take_succ_eq_append_getElem hi2, hget i hi2 hlt2]
   exact rval_snoc hmt hx
  refine ev_next e2 fun k => ?_
  simp only [Q.virgationref03_number.l0]
  rw [if_pos (by omega), if_pos (by omega)]
  have e := num_loop_aux (q := wrap64 (((p + i : Nat) : Int) - (p : Int)) < 11) (bt_list hlt2) (Q.virgationref03_number.l0 k s (wrap64 (((p + i : Nat) : Int) + 1)) (wrap64 ((wrap64 (10 * rval (D.take i))) + (((bt s ((p + i : Nat) : Int)) - 48) % 256))) (p : Int)) (numRes s ((p + i : Nat) : Int) (rval (D.take i)) (p : Int))
  refine (e.trans (if_pos ⟨hx, by rw [wr_id (by omega) (by omega)]; omega⟩)).trans ?_
  rw [bt_list hlt2, ev, wr_id (x := 10 * rval (D.take i)) (by omega) (by omega), wr_id (x := ((p + i : Nat) : Int) + 1) (by omega) (by omega), show (((s.data.toList[p + i].toNat : Nat) : Int) - 48) % 256 = (s.data.toList[p + i].toNat : Int) - 48 by omega, wr_id (by omega) (by omega)]
  congr 1
  omega
theorem number_ev (s : ByteArray) (hs : s.size ≤ 100000) {p : Nat} (hp : p ≤ s.size) : Ev (fun k => Q.virgationref03_number.f k s (p : Int)) (rval (rdig (s.data.toList.drop p)), ((p + (rdig (s.data.toList.drop p)).length : Nat) : Int), rnumOk (s.data.toList.drop p)) := by
 have := number_ev_aux s hs hp _ 0 rfl (Nat.zero_le _)
 rw [List.take_zero] at this
 exact this
def ixOf (x : ByteArray) (l : List ByteArray) : Int := if x ∈ l then (l.idxOf x : Int) else -1
theorem ixOf_cons (x y : ByteArray) (l : List ByteArray) (j : Nat) : (if x ∈ y :: l then ((j + (y :: l).idxOf x : Nat) : Int) else -1) = if y = x then (j : Int) else (if x ∈ l then ((j + 1 + l.idxOf x : Nat) : Int) else -1) := by
 by_cases e : y = x
 ·subst e
  rw [if_pos (l19_ ..), if_pos rfl, List.idxOf_cons_self]; rfl
 ·rw [if_neg e]
  by_cases h : x ∈ l
  ·rw [if_pos (l20_ _ h), if_pos h, List.idxOf_cons, show (y == x) = false from beq_eq_false_iff_ne.2 e]
   simp only [cond_false]
   congr 1
   omega
  ·rw [if_neg h, if_neg (by simp only [List.mem_cons, not_or]; exact ⟨fun q => e q.symm, h⟩)]
theorem toList_iff {a b : ByteArray} : a.toList = b.toList ↔ a = b := by
 rw [Lib.toList_data, Lib.toList_data]
 exact ⟨bytes_ext, fun h => by rw [h]⟩
theorem index_sym_ev (sy : List S71) (fs : List S52) (x : ByteArray) (hn : sy.length ≤ 100000) : ∀ d j : Nat, sy.length - j = d → j ≤ sy.length →
  Ev (fun k => Q.virgationref03_index.l0 k true x (j : Int) sy fs) (if x ∈ (sy.map (·.f0)).drop j then ((j + ((sy.map (·.f0)).drop j).idxOf x : Nat) : Int) else -1) := by
 have hout : Ev (fun k => Q.virgationref03_index.l1 k true x 0 sy fs) (-1) := by
  refine ev_next (f := fun k => Q.virgationref03_index.j3 k true x 0 false sy fs) (ev_end fun k => by simp [Q.virgationref03_index.j3]) fun k => by simp [Q.virgationref03_index.l1]
 intro d
 induction d with
 | zero =>
  intro j hd hj
  rw [l15_ (by rw [List.length_map]; omega), if_neg (by simp)]
  refine ev_next (f := fun k => Q.virgationref03_index.j1 k true x (j : Int) false sy fs) ?_ fun k => by simp only [Q.virgationref03_index.l0, if_true]; rw [l3_ (by omega)]
  exact ev_next hout fun k => by simp [Q.virgationref03_index.j1]
 | succ d ihd =>
  intro j hd hj
  have hlt : j < sy.length := by omega
  have hlt2 : j < (sy.map (·.f0)).length := by rw [List.length_map]; exact hlt
  have e2 := ihd (j + 1) (by omega) (by omega)
  rw [show ((j + 1 : Nat) : Int) = wrap64 ((j : Int) + 1) from (wrap_succ (i := (j : Int)) (by omega) (by omega)).symm] at e2
  rw [List.drop_eq_getElem_cons hlt2, ixOf_cons, List.getElem_map]
  refine ev_next (f := fun k => Q.virgationref03_index.j1 k true x (j : Int) true sy fs) ?_ fun k => by simp only [Q.virgationref03_index.l0, if_true]; rw [l2_ (by omega)]
  have hr : (rd_T71 sy (j : Int)).f0 = sy[j].f0 := by rw [rdY_at hlt]
  by_cases e : sy[j].f0 = x
  ·rw [if_pos e]
   refine ev_end fun k => ?_
   simp only [Q.virgationref03_index.j1, if_true]
   rw [if_pos (by omega), if_pos (by omega), hr, if_pos (toList_iff.2 e)]
  ·rw [if_neg e]
   refine ev_next e2 fun k => ?_
   simp only [Q.virgationref03_index.j1, if_true]
   rw [if_pos (by omega), if_pos (by omega), hr, if_neg (fun h => e (toList_iff.1 h))]
theorem index_fun_ev (sy : List S71) (fs : List S52) (x : ByteArray) (hn : fs.length ≤ 100000) : ∀ d j : Nat, fs.length - j = d → j ≤ fs.length →
  Ev (fun k => Q.virgationref03_index.l1 k false x (j : Int) sy fs) (if x ∈ (fs.map (·.f0)).drop j then ((j + ((fs.map (·.f0)).drop j).idxOf x : Nat) : Int) else -1) := by
 intro d
 induction d with
 | zero =>
  intro j hd hj
  rw [l15_ (by rw [List.length_map]; omega), if_neg (by simp)]
  refine ev_next (f := fun k => Q.virgationref03_index.j3 k false x (j : Int) false sy fs) ?_ fun k => by simp only [Q.virgationref03_index.l1, Bool.false_eq_true, if_false]; rw [l3_ (by omega)]
  exact ev_end fun k => by simp [Q.virgationref03_index.j3]
 | succ d ihd =>
  intro j hd hj
  have hlt : j < fs.length := by omega
  have hlt2 : j < (fs.map (·.f0)).length := by rw [List.length_map]; exact hlt
  have e2 := ihd (j + 1) (by omega) (by omega)
  rw [show ((j + 1 : Nat) : Int) = wrap64 ((j : Int) + 1) from (wrap_succ (i := (j : Int)) (by omega) (by omega)).symm] at e2
  rw [List.drop_eq_getElem_cons hlt2, ixOf_cons, List.getElem_map]
  refine ev_next (f := fun k => Q.virgationref03_index.j3 k false x (j : Int) true sy fs) ?_ fun k => by simp only [Q.virgationref03_index.l1, Bool.false_eq_true, if_false]; rw [l2_ (by omega)]
  have hr : (rd_T52 fs (j : Int)).f0 = fs[j].f0 := by rw [rdF_at hlt]
  by_cases e : fs[j].f0 = x
  ·rw [if_pos e]
   refine ev_end fun k => ?_
   simp only [Q.virgationref03_index.j3, if_true]
   rw [if_pos (by omega), if_pos (by omega), hr, if_pos (toList_iff.2 e)]
  ·rw [if_neg e]
   refine ev_next e2 fun k => ?_
   simp only [Q.virgationref03_index.j3, if_true]
   rw [if_pos (by omega), if_pos (by omega), hr, if_neg (fun h => e (toList_iff.1 h))]
theorem index_ev (sy : List S71) (fs : List S52) (b : Bool) (x : ByteArray) (hn : sy.length ≤ 100000) (hn2 : fs.length ≤ 100000) : Ev (fun k => Q.virgationref03_index.f k sy fs b x) (ixOf x (if b = true then sy.map (·.f0) else fs.map (·.f0))) := by
 cases b with
 | true =>
  have := index_sym_ev sy fs x hn _ 0 rfl (Nat.zero_le _)
  simp only [List.drop_zero, Nat.zero_add] at this
  simp only [if_true]
  exact this
 | false =>
  have := index_fun_ev sy fs x hn2 _ 0 rfl (Nat.zero_le _)
  simp only [List.drop_zero, Nat.zero_add] at this
  simp only [Bool.false_eq_true, if_false]
  have h1 : Ev (fun k => Q.virgationref03_index.j1 k false x 0 false sy fs) (ixOf x (fs.map (·.f0))) := ev_next this fun k => by simp [Q.virgationref03_index.j1]
  have h2 : Ev (fun k => Q.virgationref03_index.l0 k false x 0 sy fs) (ixOf x (fs.map (·.f0))) := ev_next h1 fun k => by simp only [Q.virgationref03_index.l0, Bool.false_eq_true, if_false]
  exact h2
theorem results_cell_tmp2 {fn : Func} {p u t : Tmp} {ty : TypeId} (h : fn.results = #[.cell p ty, .tmp u, .tmp t]) (tmps : Array Value) (P : Program) (w : World) :
  (results fn tmps).run P w = ((asAddr (tmps.getD p undef)).run P w).andThen fun a w₁ => ((loadVar ty a).run P w₁).andThen fun v w₂ => .ok (.tuple #[v, tmps.getD u undef, tmps.getD t undef]) w₂ := by
 simp only [results, h]
 simp [Sem.run_bind, Result.andThen]
theorem results_row_tmp2 {P : Program} {fn : Func} {p u t' : Tmp} {ty : TypeId} (h : fn.results = #[.cell p ty, .tmp u, .tmp t']) (tmps : Array Value) (w : World) (g : Nat) (t : TypeId) (cs : Array Value) (fr : Nat × Nat) (d : TypeDesc)
  (hp : tmps.getD p undef = .pointer (some ⟨g, 0, none⟩)) (hg : w.heap[g]? = some (.cells cs t fr))
  (hu : P.underlying ty = some d) (hd : (match d with | .struct _ | .array _ _ => true | _ => false) = true) (hi : (P.info? ty).map (·.size) = some cs.size) :
  (results fn tmps).run P w = .ok (.tuple #[.agg cs, tmps.getD u undef, tmps.getD t' undef]) w := by
 rw [results_cell_tmp2 h, hp]
 simp only [asAddr, Sem.run_pure, Result.andThen_ok, run_loadVar_row w g t ty cs fr d hg hu hd hi]
theorem bg1_calls (s : ByteArray) (hs : s.size ≤ 100000) {p : Nat} (hp : p ≤ s.size) {l : List UInt8} (hl : s.data.toList.drop p = l) (what : ByteArray) (hw : what.size ≤ 100) (W : World) :
  Calls Tryz.prog 132 #[.string s, .int .i64 (p : Int), .string what] W fun E w' => E = .returned (.bool (Lib.hasPrefix l what.data.toList)) ∧ Below W.heap.size W w' := by
 have h := begins1_at s hp hs what hw
 rw [hl] at h
 exact (Q.virgationref01_begins.calls s (p : Int) what _ W h).mono fun e w' h => ⟨h.1, h.2.below⟩
theorem bg3_calls (s : ByteArray) (hs : s.size ≤ 100000) {p : Nat} (hp : p ≤ s.size) {l : List UInt8} (hl : s.data.toList.drop p = l) (what : ByteArray) (hw : what.size ≤ 100) (W : World) :
  Calls Tryz.prog 63 #[.string s, .int .i64 (p : Int), .string what] W fun E w' => E = .returned (.bool (Lib.hasPrefix l what.data.toList)) ∧ Below W.heap.size W w' := by
 have h := begins3_at s hp hs what hw
 rw [hl] at h
 exact (Q.virgationref03_begins.calls s (p : Int) what _ W h).mono fun e w' h => ⟨h.1, h.2.below⟩
structure At (s : ByteArray) (p : Nat) (l : List UInt8) : Prop where
 le : p ≤ s.size
 eq : s.data.toList.drop p = l
theorem At.len {s : ByteArray} {p : Nat} {l : List UInt8} (h : At s p l) : p + l.length = s.size := by
 have := congrArg List.length h.eq
 rw [l9_, ← Lib.size_eq] at this
 have := h.le
 omega
theorem At.step {s : ByteArray} {p n : Nat} {l : List UInt8} (h : At s p l) (hn : n ≤ l.length) : At s (p + n) (l.drop n) := by
 have := h.len
 refine ⟨by omega, ?_⟩
 rw [← h.eq, List.drop_drop]
theorem At.suf {s : ByteArray} {p : Nat} {l a r : List UInt8} (h : At s p l) (e : l = a ++ r) : At s (s.size - r.length) r := by
 have h1 := h.len
 have h2 := h.step (n := a.length) (by rw [e, l7_]; omega)
 rw [e, List.drop_left] at h2
 rw [e, l7_] at h1
 rw [show s.size - r.length = p + a.length by omega]
 exact h2
def PsQ (s : ByteArray) (l : List UInt8) (W : World) (E : Ending) (w' : World) : Prop :=
 Below W.heap.size W w' ∧ ∃ (x : S47) (A : Option Addr) (c : Nat) (q : Int) (ok : Bool), E = .returned (.tuple #[.agg #[.slice A x.f0.length c], .int .i64 q, .bool ok]) ∧ Kd.R k47 47 w' W.heap.size (fun k => W.heap.size ≤ k) (.slice A x.f0.length c) x.f0 ∧
  ((ok = true ∧ ∃ r, srtR [] l = some (x, r) ∧ q = ((s.size - r.length : Nat) : Int)) ∨ (ok = false ∧ srtR [] l = none))
structure FP (W W1 : World) (acc : List S47) (A : Option Addr) (c : Nat) : Prop where
 hb : Below W.heap.size W W1
 h2 : W1.heap[W.heap.size]? = some (.cells #[.slice none 0 0] 47 (0, 0))
 h3 : W1.heap[W.heap.size + 1]? = some (.cells #[.slice A acc.length c] 47 (0, 0))
 row : Kd.R k47 47 W1 W.heap.size (fun k => W.heap.size + 1 < k) (.slice A acc.length c) acc
section
variable {W W1 W2 : World} {acc : List S47} {A : Option Addr} {c : Nat}
theorem FP.below (h : FP W W1 acc A c) (hb : Below W1.heap.size W1 W2) : FP W W2 acc A c := ⟨aL_ h.hb h.hb.size hb, aJ_ h.h2 hb, aJ_ h.h3 hb, Kd.R_below h.row hb⟩
theorem FP.cells (h : FP W W1 acc A c) : (W1.cell? ⟨W.heap.size, 0, none⟩ = some (.slice none 0 0) ∧ W1.frozen? ⟨W.heap.size, 0, none⟩ = false) ∧ W1.cell? ⟨W.heap.size + 1, 0, none⟩ = some (.slice A acc.length c) ∧ W1.frozen? ⟨W.heap.size + 1, 0, none⟩ = false :=
 ⟨⟨(aC_ h.h2 0).trans rfl, aF_ h.h2 0⟩, (aC_ h.h3 0).trans rfl, aF_ h.h3 0⟩
theorem FP.push {a : S47} {A2 : Option Addr} {c2 : Nat} (h : FP W W1 acc A c) (ho : Kd.R k47 47 W2 W.heap.size (fun k => W.heap.size + 1 < k) (.slice A2 (acc ++ [a]).length c2) (acc ++ [a])) (hb : Below W.heap.size W W2) (hg : W1.grownBy W2 (Value.slice A acc.length c).ownBlock) :
  FP W (W2.setCell ⟨W.heap.size + 1, 0, none⟩ (.slice A2 (acc.length + 1) c2)) (acc ++ [a]) A2 c2 := by
 rw [show acc.length + 1 = (acc ++ [a]).length from by simp]
 have hr : ∀ k, (Value.slice A acc.length c).ownBlock = some k → W.heap.size + 1 < k := h.row.1
 exact ⟨hb.setCell (p := ⟨W.heap.size + 1, 0, none⟩) (Nat.le_succ _) _, blk_far (aU_ h.h2 hg (fun e => by have := hr _ e.symm; omega)) (by show W.heap.size ≠ W.heap.size + 1; omega) _, blk_set (aU_ h.h3 hg (fun e => by have := hr _ e.symm; omega)) 0 _, Kd.R_far ho (fun k hk => by show k ≠ W.heap.size + 1; omega) _⟩
theorem FP.grown (h : FP W W1 acc A c) (hg : W1.grownBy W2 (Value.slice A acc.length c).ownBlock) : W2.cell? ⟨W.heap.size + 1, 0, none⟩ = some (.slice A acc.length c) ∧ W2.frozen? ⟨W.heap.size + 1, 0, none⟩ = false := by
 have hr : ∀ k, (Value.slice A acc.length c).ownBlock = some k → W.heap.size + 1 < k := h.row.1
 have h3 := aU_ h.h3 hg (fun e => by have := hr _ e.symm; omega)
 exact ⟨(aC_ h3 0).trans rfl, aF_ h3 0⟩
theorem FP.out_ (h : FP W W1 acc A c) : Below W.heap.size W (W1.setCell ⟨W.heap.size, 0, none⟩ (.slice A acc.length c)) ∧ (W1.setCell ⟨W.heap.size, 0, none⟩ (.slice A acc.length c)).heap[W.heap.size]? = some (.cells #[.slice A acc.length c] 47 (0, 0)) ∧ Kd.R k47 47 (W1.setCell ⟨W.heap.size, 0, none⟩ (.slice A acc.length c)) W.heap.size (fun k => W.heap.size ≤ k) (.slice A acc.length c) acc :=
 ⟨h.hb.setCell (p := ⟨W.heap.size, 0, none⟩) (Nat.le_refl _) _, blk_set h.h2 0 _, Kd.R_mono (Kd.R_far h.row (fun k hk => by show k ≠ W.heap.size; omega) _) (fun k hk => by omega)⟩
end
theorem hp_two {l : List UInt8} (h : Lib.hasPrefix l [111] = true) : Lib.hasPrefix l [40] = false := by
 have e := hp_split h
 simp only [l8_, List.length_nil] at e
 rw [e]
 rfl
set_option maxHeartbeats 16000000 in
set_option maxRecDepth 100000 in
theorem rparse_calls (s : ByteArray) (hs : s.size ≤ 70000) (N : Nat) : ∀ (l : List UInt8) (p : Nat) (W : World), l.length < N → At s p l → Calls Tryz.prog 108 #[.string s, .int .i64 (p : Int)] W (PsQ s l W) := by
 induction N with
 | zero => intro l p W h; omega
 | succ N ih =>
  intro l p W hN hA
  have IH := mk0 ih
  have HS := mk0 hs
  have HN := mk0 hN
  have HA := mk0 hA
  have HLL := mk0 (show l.length ≤ 70000 from by have := hA.len; omega)
  have HF := mk0 (show FP W ((W.alloc (.cells #[.slice none 0 0] 47)).alloc (.cells #[.slice none 0 0] 47)) [] none 0 from ⟨aA_ (aA_ (Below.refl _ _) _) _, aE_ (aS_ W _) _, blk_at2 W _ _, Kd.R_nil _ _ _ _ _⟩)
  clear ih hs hN hA
  go_enter Tryz.func108, Tryz.ntmps108
  go_upto_block 0 with (fail)
  generalize ((W.alloc (.cells #[.slice none 0 0] 47)).alloc (.cells #[.slice none 0 0] 47)) = W1 at *
  go_wp2_with fail
  go_loopg [1] (l.length + 1) (fun gg v1 wi => ∃ (acc : List S47) (l1 : List UInt8) (p1 : Nat) (A : Option Addr) (c : Nat), l1.length + 1 ≤ gg ∧ v1 = .int .i64 (p1 : Int) ∧ Aside0 (srtR [] l = srtR acc l1) ∧ Aside0 (acc.length + l1.length ≤ l.length) ∧ Aside0 (At s p1 l1) ∧ Aside0 (FP W wi acc A c))
  case atStart => exact ⟨[], l, p, none, 0, Nat.le_refl _, rfl, ⟨rfl⟩, ⟨by simp⟩, HA, HF⟩
  case round =>
   clear HF HA
   obtain ⟨acc, l1, p1, A, c, hgg, rfl, HE, HL, HAT, HF⟩ := hrel
   have HPL := mk0 (show p1 + l1.length ≤ 70000 from by have := (HAT.out).len; have := HS.out; omega)
   have hw1 : wrap64 ((p1 : Int) + 1) = ((p1 + 1 : Nat) : Int) := by rw [wr_id (by omega) (by have := HPL.out; omega)]; rfl
   have H111 := mk0 (fun W' => bg1_calls s (by have := HS.out; omega) (HAT.out).le (HAT.out).eq ⟨#[111]⟩ (by decide) W')
   rw [show (ByteArray.mk #[111]).data.toList = [111] from rfl] at H111
   go_wp2_with fail
   refine (H111.out _).mono ?_
   rintro E w2 ⟨rfl, hb⟩
   have HF2 := mk0 ((HF.out).below hb)
   clear hb HF H111
   cases q1 : Lib.hasPrefix l1 [111] with
   | true =>
    have HQ1 := mk0 q1
    have HP1 := mk0 (hp_len q1)
    have HAT1 := mk0 ((HAT.out).step (n := 1) (hp_len q1))
    have H3 := mk0 (fun W' => bg1_calls s (by have := HS.out; omega) (HAT1.out).le (HAT1.out).eq ⟨#[32, 62, 32]⟩ (by decide) W')
    rw [show (ByteArray.mk #[32, 62, 32]).data.toList = [32, 62, 32] from rfl] at H3
    clear q1
    go_wp2_with fail
    refine (H3.out _).mono ?_
    rintro E w3 ⟨rfl, hb⟩
    have HF3 := mk0 ((HF2.out).below hb)
    clear hb HF2 H3
    cases q2 : Lib.hasPrefix (l1.drop 1) [32, 62, 32] with
    | false =>
     have HV := mk0 (show srtR [] l = some (⟨acc⟩, l1.drop 1) from (HE.out).trans (srtR_last (hp_two HQ1.out) HQ1.out q2))
     have HO := mk0 (HF3.out).out_
     obtain ⟨⟨c0, f0⟩, c1, f1⟩ := (HF3.out).cells
     have HQP := mk0 (show ((p1 + 1 : Nat) : Int) = ((s.size - (l1.drop 1).length : Nat) : Int) from by have h1 := (HAT1.out).len; omega)
     clear q2
     go_wp2
     refine bodyPost_ret (results_row_tmp2 rfl _ _ W.heap.size 47 #[.slice A acc.length c] (0, 0) _ rfl (HO.out).2.1 Tryz.underlying47 rfl (by kernel_rfl)) rfl ?_
     exact ⟨(HO.out).1, ⟨acc⟩, A, c, _, true, rfl, (HO.out).2.2, .inl ⟨rfl, _, HV.out, HQP.out⟩⟩
    | true =>
     have HV := mk0 (show srtR [] l = srtR (acc ++ [⟨[]⟩]) ((l1.drop 1).drop 3) from (HE.out).trans (srtR_more (hp_two HQ1.out) HQ1.out q2))
     have HP2 := mk0 (hp_len q2)
     have HAT4 := mk0 ((HAT1.out).step (n := 3) (hp_len q2))
     have HLD := mk0 (show acc.length + 1 + ((l1.drop 1).drop 3).length ≤ l.length ∧ ((l1.drop 1).drop 3).length + 4 ≤ l1.length from by
      have h1 := HP1.out
      have h2 := HP2.out
      have h3 := HL.out
      rw [l9_] at h2
      simp only [l8_, List.length_nil] at h1 h2
      rw [l9_, l9_]
      omega)
     have hw4 : wrap64 ((p1 : Int) + 1 + 3) = ((p1 + 1 + 3 : Nat) : Int) := by rw [wr_id (by omega) (by have := HPL.out; omega)]; omega
     have hw5 : wrap64 (((p1 + 1 : Nat) : Int) + 3) = ((p1 + 1 + 3 : Nat) : Int) := by rw [wr_id (by omega) (by have := HPL.out; omega)]; omega
     have HLB := mk0 (show (acc.length + 1) * 24 ≤ 140737488355328 by have := HLD.out; have := HLL.out; omega)
     obtain ⟨⟨c0, f0⟩, c1, f1⟩ := (HF3.out).cells
     clear q2
     go_wp2_with ((with_reducible refine gate_builtin (b := .append) (xs := #[.tmp 23, .tmp 25]) rfl ?_); at_builtin; refine Kd.R_append k47 (w0 := W) W.heap.size rfl (.tmp 23) (.tmp 25) 43 47 (.agg #[.slice none 0 0]) 24 rfl Tryz.underlying43 Q.info47 rfl (show 0 < 1 by decide) (by decide) (.slice A acc.length c) acc ⟨[]⟩ [.slice none 0 0] (fun k => W.heap.size + 1 < k) (fun _ => False) rfl rfl (Q.k47_mkM _ _ _ ⟨[]⟩ (Kd.R_nil _ _ _ _ _)) (fun _ hk => hk.elim) (fun k hk => by have := blk_lt (HF3.out).h3; omega) (HF3.out).row (HF3.out).hb (HF3.out).hb.size HLB.out ?_; intro v9 w9 ho5 hb5 hg5 hat5; (obtain ⟨A9, c9, rfl⟩ := Kd.R_slice ho5); have HF9 := mk0 ((HF3.out).push ho5 hb5 hg5); have hGG := (HF3.out).grown hg5; have c6 := hGG.1; have f6 := hGG.2; clear hGG ho5 hb5 hg5 hat5)
     go_roundg (((l1.drop 1).drop 3).length + 1)
     case measure => have := (HLD.out).2; omega
     case rel => exact ⟨acc ++ [⟨[]⟩], (l1.drop 1).drop 3, p1 + 1 + 3, A9, c9, Nat.le_refl _, by first | rfl | rw [hw5] | rw [hw4], HV, ⟨by rw [l7_, l10_]; exact (HLD.out).1⟩, HAT4, HF9⟩
   | false =>
    have HQ1 := mk0 q1
    have H40 := mk0 (fun W' => bg1_calls s (by have := HS.out; omega) (HAT.out).le (HAT.out).eq ⟨#[40]⟩ (by decide) W')
    rw [show (ByteArray.mk #[40]).data.toList = [40] from rfl] at H40
    clear q1
    go_wp2_with fail
    refine (H40.out _).mono ?_
    rintro E w3 ⟨rfl, hb⟩
    have HF3 := mk0 ((HF2.out).below hb)
    clear hb HF2 H40
    cases q2 : Lib.hasPrefix l1 [40] with
    | false =>
     have HV := mk0 (show srtR [] l = none from (HE.out).trans (srtR_none q2 HQ1.out))
     have HO := mk0 (HF3.out).out_
     obtain ⟨⟨c0, f0⟩, c1, f1⟩ := (HF3.out).cells
     clear q2 hw1
     go_wp2
     refine bodyPost_ret (results_row_tmp2 rfl _ _ W.heap.size 47 #[.slice A acc.length c] (0, 0) _ rfl (HO.out).2.1 Tryz.underlying47 rfl (by kernel_rfl)) rfl ?_
     exact ⟨(HO.out).1, ⟨acc⟩, A, c, _, false, rfl, (HO.out).2.2, .inr ⟨rfl, HV.out⟩⟩
    | true =>
     have HP1 := mk0 (hp_len q2)
     have HAT1 := mk0 ((HAT.out).step (n := 1) (hp_len q2))
     have HV := mk0 (srtR_open (acc := acc) q2)
     have HLD := mk0 (show (l1.drop 1).length + 1 = l1.length from by have := HP1.out; simp only [l8_, List.length_nil] at this; rw [l9_]; omega)
     have HI := mk0 (IH.out (l1.drop 1) (p1 + 1) w3 (by have := HLD.out; have := HL.out; have := HN.out; omega) HAT1.out)
     unfold PsQ at HI
     clear q2
     go_wp2_with fail
     refine (HI.out).mono ?_
     rintro E w4 ⟨hb, x, Ax, cx, q, ok, rfl, hR, hv⟩
     have HF4 := mk0 ((HF3.out).below hb)
     have HR4 := mk0 (Kd.R_new' hR (Kd.R_lt (HF3.out).row))
     have HSZ3 := mk0 (show W.heap.size + 1 < w3.heap.size from blk_lt (HF3.out).h3)
     have HSZ4 := mk0 hb.size
     have HVV := mk0 hv
     clear hb hR hv HF3 HI
     go_upto_region 11 with (fail)
     have bx := aA_ (Below.refl w4.heap.size w4) (.cells #[.slice Ax x.f0.length cx] 47)
     have HX5 := mk0 (aS_ w4 (.cells #[.slice Ax x.f0.length cx] 47))
     have HF5 := mk0 ((HF4.out).below bx)
     have HR5 := mk0 (Kd.R_lower (base' := W.heap.size) (Kd.R_mono (ok' := fun k => W.heap.size + 1 < k ∧ some k ≠ (Value.slice A acc.length c).ownBlock) (Kd.R_below HR4.out bx) (fun k hk => ⟨by have := HSZ3.out; omega, hk.2⟩)) (by have := HSZ3.out; omega))
     clear bx HF4 HR4
     generalize (w4.alloc (.cells #[.slice Ax x.f0.length cx] 47)) = w5 at *
     generalize w4.heap.size = b4 at *
     have HNB := mk0 (show W.heap.size + 1 < b4 from by have := HSZ3.out; have := HSZ4.out; omega)
     have m0 : w5.cell? ⟨b4, 0, none⟩ = some (.slice Ax x.f0.length cx) := (aC_ HX5.out 0).trans rfl
     have HBAD := mk0 (fun (h : srtR [] l = none) => h)
     cases ok with
     | false =>
      have HNO := mk0 (show srtR [] l = none from by
       rcases HVV.out with ⟨h, _⟩ | ⟨_, h⟩
       ·cases h
       ·rw [HE.out, HV.out, h]; rfl)
      have HO := mk0 (HF5.out).out_
      obtain ⟨⟨c0, f0⟩, c1, f1⟩ := (HF5.out).cells
      go_wp2
      refine bodyPost_ret (results_row_tmp2 rfl _ _ W.heap.size 47 #[.slice A acc.length c] (0, 0) _ rfl (HO.out).2.1 Tryz.underlying47 rfl (by kernel_rfl)) rfl ?_
      exact ⟨(HO.out).1, ⟨acc⟩, A, c, _, false, rfl, (HO.out).2.2, .inr ⟨rfl, HNO.out⟩⟩
     | true =>
      obtain ⟨r, hr, hq⟩ : ∃ r, srtR [] (l1.drop 1) = some (x, r) ∧ q = ((s.size - r.length : Nat) : Int) := by
       rcases HVV.out with ⟨_, h⟩ | ⟨h, _⟩
       ·exact h
       ·cases h
      subst hq
      have HRS := mk0 hr
      have HATR := mk0 ((HAT1.out).suf (srtR_sound hr).1)
      have HLR := mk0 (srtR_less hr)
      clear hr HVV
      by_cases hz : x.f0.length = 0
      ·have HNO := mk0 (show srtR [] l = none from by rw [HE.out, HV.out, HRS.out]; simp only [l23_]; rw [if_pos hz])
       have hzz : (x.f0.length : Int) = 0 := by omega
       have HO := mk0 (HF5.out).out_
       obtain ⟨⟨c0, f0⟩, c1, f1⟩ := (HF5.out).cells
       clear hz
       go_wp2
       refine bodyPost_ret (results_row_tmp2 rfl _ _ W.heap.size 47 #[.slice A acc.length c] (0, 0) _ rfl (HO.out).2.1 Tryz.underlying47 rfl (by kernel_rfl)) rfl ?_
       exact ⟨(HO.out).1, ⟨acc⟩, A, c, _, false, rfl, (HO.out).2.2, .inr ⟨rfl, HNO.out⟩⟩
      ·have hzz : ((x.f0.length : Int) == 0) = false := by simpa using hz
       have HZ0 := mk0 hz
       have H4 := mk0 (fun W' => bg1_calls s (by have := HS.out; omega) (HATR.out).le (HATR.out).eq ⟨#[41, 32, 62, 32]⟩ (by decide) W')
       rw [show (ByteArray.mk #[41, 32, 62, 32]).data.toList = [41, 32, 62, 32] from rfl] at H4
       go_wp2_with fail
       refine (H4.out _).mono ?_
       rintro E w6 ⟨rfl, hb⟩
       have HF6 := mk0 ((HF5.out).below hb)
       have HX6 := mk0 (aJ_ HX5.out hb)
       have HR6 := mk0 (Kd.R_below HR5.out hb)
       clear hb HF5 HX5 HR5 H4 m0 hz
       cases q3 : Lib.hasPrefix r [41, 32, 62, 32] with
       | false =>
        have HNO := mk0 (show srtR [] l = none from by rw [HE.out, HV.out, HRS.out]; simp only [l23_]; rw [if_neg HZ0.out, q3]; simp)
        have HO := mk0 (HF6.out).out_
        obtain ⟨⟨c0, f0⟩, c1, f1⟩ := (HF6.out).cells
        clear q3
        go_wp2
        refine bodyPost_ret (results_row_tmp2 rfl _ _ W.heap.size 47 #[.slice A acc.length c] (0, 0) _ rfl (HO.out).2.1 Tryz.underlying47 rfl (by kernel_rfl)) rfl ?_
        exact ⟨(HO.out).1, ⟨acc⟩, A, c, _, false, rfl, (HO.out).2.2, .inr ⟨rfl, HNO.out⟩⟩
       | true =>
        have HGO := mk0 (show srtR [] l = srtR (acc ++ [x]) (r.drop 4) from by rw [HE.out, HV.out, HRS.out]; simp only [l23_]; rw [if_neg HZ0.out, q3, if_pos rfl])
        have HP4 := mk0 (hp_len q3)
        have HAT4 := mk0 ((HATR.out).step (n := 4) (hp_len q3))
        have HLD2 := mk0 (show acc.length + 1 + (r.drop 4).length ≤ l.length ∧ (r.drop 4).length + 4 ≤ l1.length ∧ s.size - r.length + 4 ≤ 70000 from by
         have h1 := HP4.out
         have h2 := HLR.out
         have h3 := HL.out
         have h4 := HLD.out
         have h5 := (HAT4.out).le
         have h6 := HS.out
         simp only [l8_, List.length_nil] at h1
         rw [l9_]
         omega)
        have hw5 : wrap64 (((s.size - r.length : Nat) : Int) + 4) = ((s.size - r.length + 4 : Nat) : Int) := by rw [wr_id (by omega) (by have := (HLD2.out).2.2; omega)]; omega
        have HLB := mk0 (show (acc.length + 1) * 24 ≤ 140737488355328 by have := HLD2.out; have := HLL.out; omega)
        have m0 : w6.cell? ⟨b4, 0, none⟩ = some (.slice Ax x.f0.length cx) := (aC_ HX6.out 0).trans rfl
        obtain ⟨⟨c0, f0⟩, c1, f1⟩ := (HF6.out).cells
        clear q3
        go_wp2_with ((with_reducible refine gate_builtin (b := .append) (xs := #[.tmp 61, .tmp 63]) rfl ?_); at_builtin; refine Kd.R_append k47 (w0 := W) W.heap.size rfl (.tmp 61) (.tmp 63) 43 47 (.agg #[.slice none 0 0]) 24 rfl Tryz.underlying43 Q.info47 rfl (show 0 < 1 by decide) (by decide) (.slice A acc.length c) acc x [.slice Ax x.f0.length cx] (fun k => W.heap.size + 1 < k) (fun k => W.heap.size + 1 < k ∧ some k ≠ (Value.slice A acc.length c).ownBlock) rfl rfl (Q.k47_mkM _ _ _ x HR6.out) (fun _ hk => hk) (fun k hk => by have := blk_lt (HF6.out).h3; omega) (HF6.out).row (HF6.out).hb (HF6.out).hb.size HLB.out ?_; intro v9 w9 ho5 hb5 hg5 hat5; (obtain ⟨A9, c9, rfl⟩ := Kd.R_slice ho5); have HF9 := mk0 ((HF6.out).push ho5 hb5 hg5); have hGG := (HF6.out).grown hg5; have c6 := hGG.1; have f6 := hGG.2; clear hGG ho5 hb5 hg5 hat5)
        go_roundg ((r.drop 4).length + 1)
        case measure => have := (HLD2.out).2.1; omega
        case rel => exact ⟨acc ++ [x], r.drop 4, s.size - r.length + 4, A9, c9, Nat.le_refl _, by rw [hw5], HGO, ⟨by rw [l7_, l10_]; exact (HLD2.out).1⟩, HAT4, HF9⟩
def hdRes (a b : List ByteArray) (l : List UInt8) : Int × Int × Nat × Bool :=
 if Lib.hasPrefix l [36] = true then (0, rval (rdig (l.drop 1)), 1 + (rdig (l.drop 1)).length, rnumOk (l.drop 1))
 else if Lib.hasPrefix l [35] = true then (2, ixOf ⟨((l.drop 1).takeWhile wch).toArray⟩ a, 1 + ((l.drop 1).takeWhile wch).length, decide (ixOf ⟨((l.drop 1).takeWhile wch).toArray⟩ a ≥ 0))
 else (1, ixOf ⟨(l.takeWhile wch).toArray⟩ b, (l.takeWhile wch).length, decide (ixOf ⟨(l.takeWhile wch).toArray⟩ b ≥ 0))
theorem ixOf_ok (x : ByteArray) (l : List ByteArray) : decide (ixOf x l ≥ 0) = true ↔ x ∈ l := by
 unfold ixOf
 rw [l22_]
 split
 ·exact ⟨fun _ => ‹_›, fun _ => by omega⟩
 ·exact ⟨fun h => absurd h (by decide), fun h => absurd h ‹_›⟩
theorem hdRes_rhdR (a b : List ByteArray) (l : List UInt8) : rhdR a b l = if (hdRes a b l).2.2.2 = true then some (((hdRes a b l).1, (hdRes a b l).2.1), l.drop (hdRes a b l).2.2.1) else none := by
 unfold rhdR hdRes
 by_cases h1 : Lib.hasPrefix l [36] = true
 ·simp only [h1, if_true, List.drop_drop]
 ·simp only [h1, if_false, Bool.false_eq_true]
  by_cases h2 : Lib.hasPrefix l [35] = true
  ·simp only [h2, if_true, List.drop_drop]
   by_cases h3 : (⟨((l.drop 1).takeWhile wch).toArray⟩ : ByteArray) ∈ a
   ·rw [if_pos h3, if_pos ((ixOf_ok _ _).2 h3)]
    unfold ixOf
    rw [if_pos h3]
   ·rw [if_neg h3, if_neg (fun h => h3 ((ixOf_ok _ _).1 h))]
  ·simp only [h2, if_false, Bool.false_eq_true]
   by_cases h3 : (⟨(l.takeWhile wch).toArray⟩ : ByteArray) ∈ b
   ·rw [if_pos h3, if_pos ((ixOf_ok _ _).2 h3)]
    unfold ixOf
    rw [if_pos h3]
   ·rw [if_neg h3, if_neg (fun h => h3 ((ixOf_ok _ _).1 h))]
theorem tw_len (p : UInt8 → Bool) (l : List UInt8) : (l.takeWhile p).length ≤ l.length := by
 have := congrArg List.length (takeWhile_split p l)
 rw [l7_] at this
 omega
theorem hp1_len {l : List UInt8} {c : UInt8} (h : Lib.hasPrefix l [c] = true) : 1 ≤ l.length := by simpa using hp_len h
theorem hdRes_len (a b : List ByteArray) (l : List UInt8) : (hdRes a b l).2.2.1 ≤ l.length := by
 unfold hdRes
 by_cases h1 : Lib.hasPrefix l [36] = true
 ·have := hp1_len h1
  have h2 := (rdig_take (l.drop 1)).2.2
  rw [l9_] at h2
  simp only [h1, if_true]
  omega
 ·simp only [h1, if_false, Bool.false_eq_true]
  by_cases h2 : Lib.hasPrefix l [35] = true
  ·have := hp1_len h2
   have h3 := tw_len wch (l.drop 1)
   rw [l9_] at h3
   simp only [h2, if_true]
   omega
  ·simp only [h2, if_false, Bool.false_eq_true]
   exact tw_len wch l
theorem ext_tw (s : ByteArray) {p : Nat} (f : UInt8 → Bool) : s.extract p (p + ((s.data.toList.drop p).takeWhile f).length) = (⟨((s.data.toList.drop p).takeWhile f).toArray⟩ : ByteArray) := by
 apply bytes_ext
 rw [ext_list, show p + ((s.data.toList.drop p).takeWhile f).length - p = ((s.data.toList.drop p).takeWhile f).length by omega]
 conv => lhs; arg 2; rw [takeWhile_split f (s.data.toList.drop p)]
 rw [List.take_left']
 rfl
theorem evc {α : Type} {g f : Nat → Option α} {r : α} (k : Ev f r) (h : ∀ k, g k = f k) : Ev g r := Ev.congr h k
theorem rhead_ev (sy : List S71) (fs : List S52) (hn : sy.length ≤ 100000) (hn2 : fs.length ≤ 100000) (s : ByteArray) (hs : s.size ≤ 100000) {p : Nat} (hp : p ≤ s.size) {h1 h2 : Int} {n : Nat} {ok : Bool} (he : hdRes (sy.map (·.f0)) (fs.map (·.f0)) (s.data.toList.drop p) = (h1, h2, n, ok)) :
  Ev (fun k => Q.virgationref03_parseHead.f k sy fs s (p : Int)) (h1, h2, ([] : List S50), ((p + n : Nat) : Int), ok) := by
 have hsz := Lib.size_eq s
 have hb := begins3_at s hp hs
 unfold hdRes at he
 have e36 := hb (⟨#[36]⟩ : ByteArray) (by decide)
 have e35 := hb (⟨#[35]⟩ : ByteArray) (by decide)
 by_cases q1 : Lib.hasPrefix (s.data.toList.drop p) [36] = true
 ·rw [if_pos q1] at he
  have hl := hp1_len q1
  rw [l9_] at hl
  simp only [Prod.mk.injEq] at he
  obtain ⟨rfl, rfl, rfl, rfl⟩ := he
  have e := number_ev s hs (p := p + 1) (by omega)
  rw [← List.drop_drop, show p + 1 + (rdig (List.drop 1 (List.drop p s.data.toList))).length = p + (1 + (rdig (List.drop 1 (List.drop p s.data.toList))).length) by omega] at e
  refine evc (Ev.bind e (f := fun k bt156 => some (0, bt156.1, ([] : List (S50)), bt156.2.1, bt156.2.2)) (Ev.now _)) fun k => ?_
  unfold Q.virgationref03_parseHead.f
  rw [e36]
  simp only [l23_]
  rw [if_pos q1, wr_id (x := (p : Int) + 1) (by omega) (by omega)]
  rfl
 ·rw [if_neg q1] at he
  by_cases q2 : Lib.hasPrefix (s.data.toList.drop p) [35] = true
  ·rw [if_pos q2] at he
   have hl := hp1_len q2
   rw [l9_] at hl
   simp only [Prod.mk.injEq] at he
   obtain ⟨rfl, rfl, rfl, rfl⟩ := he
   have e := word_ev s hs (p := p + 1) (by omega)
   have hx := ext_tw s (p := p + 1) wch
   have ht := tw_len wch (s.data.toList.drop (p + 1))
   rw [l9_] at ht
   rw [List.drop_drop] at *
   generalize hW : List.takeWhile wch (List.drop (p + 1) s.data.toList) = W at *
   have e2 := index_ev sy fs true (⟨W.toArray⟩ : ByteArray) hn hn2
   simp only [if_true] at e2
   refine evc (Ev.bind e (f := fun k t160 => (if 0 ≤ (wrap64 ((p : Int) + 1)) then (if (wrap64 ((p : Int) + 1)) ≤ t160 then (if t160 ≤ (s.size : Int) then ((Q.virgationref03_index.f k sy fs true (s.extract ((wrap64 ((p : Int) + 1)) : Int).toNat (t160 : Int).toNat)).bind fun t161 => (some (2, t161, ([] : List (S50)), t160, decide (t161 ≥ 0)))) else (none)) else (none)) else (none))) (evc (Ev.bind e2 (f := fun k t161 => (some (2, t161, ([] : List (S50)), ((p + (1 + W.length) : Nat) : Int), decide (t161 ≥ 0)))) (Ev.now _)) fun k => ?_)) fun k => ?_
   ·rw [wr_id (x := (p : Int) + 1) (by omega) (by omega), if_pos (by omega), if_pos (by omega), if_pos (by omega), show ((p : Int) + 1).toNat = p + 1 by omega, l14_, hx, show p + 1 + W.length = p + (1 + W.length) by omega]
   ·unfold Q.virgationref03_parseHead.f
    rw [e36]
    simp only [l23_]
    rw [if_neg q1, e35]
    simp only [l23_]
    rw [if_pos q2, show (Lib.hasPrefix (List.drop p s.data.toList) (⟨#[35]⟩ : ByteArray).data.toList) = true from q2, wr_id (x := (p : Int) + 1) (by omega) (by omega)]
    rfl
  ·rw [if_neg q2] at he
   simp only [Prod.mk.injEq] at he
   obtain ⟨rfl, rfl, rfl, rfl⟩ := he
   have e := word_ev s hs (p := p) (by omega)
   have hx := ext_tw s (p := p) wch
   have ht := tw_len wch (s.data.toList.drop p)
   rw [l9_] at ht
   generalize hW : List.takeWhile wch (List.drop p s.data.toList) = W at *
   have e2 := index_ev sy fs false (⟨W.toArray⟩ : ByteArray) hn hn2
   simp only [Bool.false_eq_true, if_false] at e2
   refine evc (Ev.bind e (f := fun k t160 => (if 0 ≤ (p : Int) then (if (p : Int) ≤ t160 then (if t160 ≤ (s.size : Int) then ((Q.virgationref03_index.f k sy fs false (s.extract (p : Int).toNat (t160 : Int).toNat)).bind fun t161 => (some (1, t161, ([] : List (S50)), t160, decide (t161 ≥ 0)))) else (none)) else (none)) else (none))) (evc (Ev.bind e2 (f := fun k t161 => (some (1, t161, ([] : List (S50)), ((p + W.length : Nat) : Int), decide (t161 ≥ 0)))) (Ev.now _)) fun k => ?_)) fun k => ?_
   ·rw [if_pos (by omega), if_pos (by omega), if_pos (by omega), l14_, l14_, hx]
   ·unfold Q.virgationref03_parseHead.f
    rw [e36]
    simp only [l23_]
    rw [if_neg q1, e35]
    simp only [l23_]
    rw [if_neg q2, show (Lib.hasPrefix (List.drop p s.data.toList) (⟨#[35]⟩ : ByteArray).data.toList) = false from Bool.eq_false_iff.2 q2]
theorem rph_calls {A0 A1 : Option Addr} {c0 c1 : Nat} {sy : List S71} {fs : List S52} {w : World} (h0 : Kd.C k71 w A0 sy.length sy) (hc0 : sy.length ≤ c0) (h1 : Kd.C k52 w A1 fs.length fs) (hc1 : fs.length ≤ c1) (hn : sy.length ≤ 100000) (hn2 : fs.length ≤ 100000) (s : ByteArray) (hs : s.size ≤ 100000) {p : Nat} (hp : p ≤ s.size) {x1 x2 : Int} {n : Nat} {ok : Bool} (he : hdRes (sy.map (·.f0)) (fs.map (·.f0)) (s.data.toList.drop p) = (x1, x2, n, ok)) :
  Calls Tryz.prog 109 #[.agg #[.slice A0 sy.length c0, .slice A1 fs.length c1], .string s, .int .i64 (p : Int)] w fun e w' => ∃ v : Value, e = .returned (.tuple #[.agg #[.int .i64 x1, .int .i64 x2, v], .int .i64 ((p + n : Nat) : Int), .bool ok]) ∧ Kd.R k50 50 w' w.heap.size (fun _ => True) v [] ∧ Below w.heap.size w w' := by
 obtain ⟨k, hk⟩ := (rhead_ev sy fs hn hn2 s hs hp he).rounds
 exact Q.virgationref03_parseHead.calls k A0 c0 sy A1 c1 fs s (p : Int) x1 x2 [] _ ok w h0 hc0 h1 hc1 hk
abbrev HD := List UInt8 → Option ((Int × Int) × List UInt8)
abbrev HLe (hd : HD) : Prop := ∀ {l : List UInt8} {p : (Int × Int) × List UInt8}, hd l = some p → p.2.length ≤ l.length
theorem rhdR_le (a b : List ByteArray) : HLe (rhdR a b) := by
 intro l p h
 rw [hdRes_rhdR] at h
 split at h
 ·cases h
  simp only [l9_]
  omega
 ·cases h
theorem tmG_le (hd : HD) (H : HLe hd) (n : Nat) : ∀ (kn : Int × Int) (acc : List S50) (l : List UInt8) (p : S50 × List UInt8), tmG hd n kn acc l = some p → p.2.length ≤ l.length := by
 induction n with
 | zero => intro kn acc l p h; simp [tmG] at h
 | succ n ih =>
  intro kn acc l p h
  rw [tmG] at h
  split at h
  ·split at h
   ·obtain ⟨a, ha, h⟩ := Option.bind_eq_some_iff.1 h
    obtain ⟨q, hq, h⟩ := Option.bind_eq_some_iff.1 h
    have h1 := H ha
    have h2 := ih _ _ _ _ hq
    rw [l9_, l9_] at h1
    split at h
    ·cases h
    ·split at h
     ·have h3 := ih _ _ _ _ h
      rw [l9_] at h3
      omega
     ·cases h
   ·obtain ⟨a, ha, h⟩ := Option.bind_eq_some_iff.1 h
    have h1 := H ha
    have h2 := ih _ _ _ _ h
    rw [l9_] at h1
    omega
  ·cases h
   exact Nat.le_refl _
theorem tmG_fuel (hd : HD) (H : HLe hd) (n : Nat) : ∀ (m : Nat) (kn : Int × Int) (acc : List S50) (l : List UInt8), l.length < n → l.length < m → tmG hd n kn acc l = tmG hd m kn acc l := by
 induction n with
 | zero => intro m kn acc l h; omega
 | succ n ih =>
  intro m kn acc l h1 h2
  cases m with
  | zero => omega
  | succ m =>
   rw [tmG, tmG]
   by_cases q : Lib.hasPrefix l [32] = true
   ·have hl := hp_len q
    simp only [l8_, List.length_nil] at hl
    rw [if_pos q, if_pos q]
    by_cases q2 : Lib.hasPrefix (l.drop 1) [40] = true
    ·rw [if_pos q2, if_pos q2]
     cases e : hd ((l.drop 1).drop 1) with
     | none => rfl
     | some p =>
      have h3 := H e
      rw [l9_, l9_] at h3
      simp only [l23_]
      rw [ih m p.1 [] p.2 (by omega) (by omega)]
      cases e2 : tmG hd m p.1 [] p.2 with
      | none => rfl
      | some q =>
       have h4 := tmG_le _ H _ _ _ _ _ e2
       simp only [l23_]
       rw [ih m _ _ (q.2.drop 1) (by rw [l9_]; omega) (by rw [l9_]; omega)]
    ·rw [if_neg q2, if_neg q2]
     cases e : hd (l.drop 1) with
     | none => rfl
     | some p =>
      have h3 := H e
      rw [l9_] at h3
      simp only [l23_]
      rw [ih m _ _ p.2 (by omega) (by omega)]
   ·rw [if_neg q, if_neg q]
def tgA (hd : HD) (kn : Int × Int) (acc : List S50) (l : List UInt8) : Option (S50 × List UInt8) := tmG hd (l.length + 1) kn acc l
theorem tmRG_le {hd : HD} (H : HLe hd) {l : List UInt8} {p : S50 × List UInt8} (h : tmRG hd l = some p) : p.2.length ≤ l.length := by
 obtain ⟨a, ha, h⟩ := Option.bind_eq_some_iff.1 h
 exact Nat.le_trans (tmG_le _ H _ _ _ _ _ h) (H ha)
theorem tgA_end {hd : HD} (H : HLe hd) {kn : Int × Int} {acc : List S50} {l : List UInt8} (h : Lib.hasPrefix l [32] = false) : tgA hd kn acc l = some (⟨kn.1, kn.2, acc⟩, l) := by
 unfold tgA; rw [tmG, if_neg (by rw [h]; exact l16_)]
theorem tgA_head {hd : HD} (H : HLe hd) {kn : Int × Int} {acc : List S50} {l : List UInt8} (h : Lib.hasPrefix l [32] = true) (h2 : Lib.hasPrefix (l.drop 1) [40] = false) :
  tgA hd kn acc l = (hd (l.drop 1)).bind fun p => tgA hd kn (acc ++ [⟨p.1.1, p.1.2, []⟩]) p.2 := by
 have hl := hp_len h
 simp only [l8_, List.length_nil] at hl
 unfold tgA
 rw [tmG, if_pos h, if_neg (by rw [h2]; exact l16_)]
 cases e : hd (l.drop 1) with
 | none => rfl
 | some p =>
  have h3 := H e
  rw [l9_] at h3
  simp only [l23_]
  exact tmG_fuel _ H _ _ _ _ _ (by omega) (by omega)
theorem tgA_sub {hd : HD} (H : HLe hd) {kn : Int × Int} {acc : List S50} {l : List UInt8} (h : Lib.hasPrefix l [32] = true) (h2 : Lib.hasPrefix (l.drop 1) [40] = true) :
  tgA hd kn acc l = (tmRG hd ((l.drop 1).drop 1)).bind fun q => if q.1.f2.length = 0 then none else if Lib.hasPrefix q.2 [41] = true then tgA hd kn (acc ++ [q.1]) (q.2.drop 1) else none := by
 have hl := hp_len h
 have hl2 := hp_len h2
 rw [l9_] at hl2
 simp only [l8_, List.length_nil] at hl hl2
 unfold tmRG tgA
 rw [tmG, if_pos h, if_pos h2]
 cases e : hd ((l.drop 1).drop 1) with
 | none => rfl
 | some p =>
  have h3 := H e
  rw [l9_, l9_] at h3
  simp only [l23_]
  rw [tmG_fuel _ H l.length (p.2.length + 1) p.1 [] p.2 (by omega) (by omega)]
  cases e2 : tmG hd (p.2.length + 1) p.1 [] p.2 with
  | none => rfl
  | some q =>
   have h4 := tmG_le _ H _ _ _ _ _ e2
   simp only [l23_]
   rw [tmG_fuel _ H l.length ((q.2.drop 1).length + 1) _ _ (q.2.drop 1) (by rw [l9_]; omega) (by omega)]
structure FG (W : World) (A0 A1 : Option Addr) (n0 c0 n1 c1 : Nat) (g : Nat) (kn : Int × Int) (W1 : World) (acc : List S50) (A : Option Addr) (c : Nat) : Prop where
 hb : Below W.heap.size W W1
 h1 : W1.heap[W.heap.size]? = some (.cells #[.slice A0 n0 c0, .slice A1 n1 c1] 25 (0, 0))
 h2 : W1.heap[W.heap.size + 1]? = some (.cells #[.int .i64 0, .int .i64 0, .slice none 0 0] 50 (0, 0))
 h3 : W1.heap[g]? = some (.cells #[.int .i64 kn.1, .int .i64 kn.2, .slice A acc.length c] 50 (0, 0))
 row : Kd.R k50 50 W1 W.heap.size (fun k => W.heap.size + 1 < k ∧ k ≠ g) (.slice A acc.length c) acc
 lt : W.heap.size + 1 < g
section
variable {W W1 W2 : World} {A0 A1 : Option Addr} {n0 c0 n1 c1 g : Nat} {kn : Int × Int} {acc : List S50} {A : Option Addr} {c : Nat}
theorem FG.below (h : FG W A0 A1 n0 c0 n1 c1 g kn W1 acc A c) (hb : Below W1.heap.size W1 W2) : FG W A0 A1 n0 c0 n1 c1 g kn W2 acc A c :=
 ⟨aL_ h.hb h.hb.size hb, aJ_ h.h1 hb, aJ_ h.h2 hb, aJ_ h.h3 hb, Kd.R_below h.row hb, h.lt⟩
theorem FG.box (h : FG W A0 A1 n0 c0 n1 c1 g kn W1 acc A c) : W1.cell? ⟨W.heap.size, 0, none⟩ = some (.slice A0 n0 c0) ∧ W1.cell? ⟨W.heap.size, 1, none⟩ = some (.slice A1 n1 c1) := ⟨(aC_ h.h1 0).trans rfl, (aC_ h.h1 1).trans rfl⟩
theorem FG.cells (h : FG W A0 A1 n0 c0 n1 c1 g kn W1 acc A c) : (W1.cell? ⟨W.heap.size + 1, 0, none⟩ = some (.int .i64 0) ∧ W1.cell? ⟨W.heap.size + 1, 1, none⟩ = some (.int .i64 0) ∧ W1.cell? ⟨W.heap.size + 1, 2, none⟩ = some (.slice none 0 0)) ∧ (W1.cell? ⟨g, 0, none⟩ = some (.int .i64 kn.1) ∧ W1.cell? ⟨g, 1, none⟩ = some (.int .i64 kn.2) ∧ W1.cell? ⟨g, 2, none⟩ = some (.slice A acc.length c)) ∧ W1.frozen? ⟨W.heap.size + 1, 0, none⟩ = false ∧ W1.frozen? ⟨W.heap.size + 1, 1, none⟩ = false ∧ W1.frozen? ⟨W.heap.size + 1, 2, none⟩ = false ∧ W1.frozen? ⟨g, 2, none⟩ = false :=
 ⟨⟨(aC_ h.h2 0).trans rfl, (aC_ h.h2 1).trans rfl, (aC_ h.h2 2).trans rfl⟩, ⟨(aC_ h.h3 0).trans rfl, (aC_ h.h3 1).trans rfl, (aC_ h.h3 2).trans rfl⟩, aF_ h.h2 0, aF_ h.h2 1, aF_ h.h2 2, aF_ h.h3 2⟩
theorem FG.push {a : S50} {A2 : Option Addr} {c2 : Nat} (h : FG W A0 A1 n0 c0 n1 c1 g kn W1 acc A c) (ho : Kd.R k50 50 W2 W.heap.size (fun k => W.heap.size + 1 < k ∧ k ≠ g) (.slice A2 (acc ++ [a]).length c2) (acc ++ [a])) (hb : Below W.heap.size W W2) (hg : W1.grownBy W2 (Value.slice A acc.length c).ownBlock) :
  FG W A0 A1 n0 c0 n1 c1 g kn (W2.setCell ⟨g, 2, none⟩ (.slice A2 (acc.length + 1) c2)) (acc ++ [a]) A2 c2 := by
 rw [show acc.length + 1 = (acc ++ [a]).length from by simp]
 have hlt := h.lt
 have hr : ∀ k, (Value.slice A acc.length c).ownBlock = some k → W.heap.size + 1 < k ∧ k ≠ g := h.row.1
 exact ⟨hb.setCell (p := ⟨g, 2, none⟩) (by show W.heap.size ≤ g; omega) _, blk_far (aU_ h.h1 hg (fun e => by have := hr _ e.symm; omega)) (by show W.heap.size ≠ g; omega) _, blk_far (aU_ h.h2 hg (fun e => by have := hr _ e.symm; omega)) (by show W.heap.size + 1 ≠ g; omega) _, blk_set (aU_ h.h3 hg (fun e => by have := hr _ e.symm; omega)) 2 _, Kd.R_far ho (fun k hk => hk.2) _, hlt⟩
theorem FG.grown (h : FG W A0 A1 n0 c0 n1 c1 g kn W1 acc A c) (hg : W1.grownBy W2 (Value.slice A acc.length c).ownBlock) : W2.cell? ⟨g, 2, none⟩ = some (.slice A acc.length c) ∧ W2.frozen? ⟨g, 2, none⟩ = false := by
 have hr : ∀ k, (Value.slice A acc.length c).ownBlock = some k → W.heap.size + 1 < k ∧ k ≠ g := h.row.1
 have h3 := aU_ h.h3 hg (fun e => by have := hr _ e.symm; omega)
 exact ⟨(aC_ h3 2).trans rfl, aF_ h3 2⟩
def wOut (W W1 : World) (kn : Int × Int) (v : Value) : World := ((W1.setCell ⟨W.heap.size + 1, 0, none⟩ (.int .i64 kn.1)).setCell ⟨W.heap.size + 1, 1, none⟩ (.int .i64 kn.2)).setCell ⟨W.heap.size + 1, 2, none⟩ v
theorem FG.out_ (h : FG W A0 A1 n0 c0 n1 c1 g kn W1 acc A c) : Below W.heap.size W (wOut W W1 kn (.slice A acc.length c)) ∧ (wOut W W1 kn (.slice A acc.length c)).heap[W.heap.size + 1]? = some (.cells #[.int .i64 kn.1, .int .i64 kn.2, .slice A acc.length c] 50 (0, 0)) ∧ Kd.R k50 50 (wOut W W1 kn (.slice A acc.length c)) W.heap.size (fun k => W.heap.size ≤ k) (.slice A acc.length c) acc := by
 have hlt := h.lt
 have hne : ∀ q, W.heap.size + 1 < q ∧ q ≠ g → q ≠ W.heap.size + 1 := fun q hq => by omega
 refine ⟨?_, blk_set (blk_set (blk_set h.h2 0 _) 1 _) 2 _, ?_⟩
 ·exact ((h.hb.setCell (p := ⟨W.heap.size + 1, 0, none⟩) (Nat.le_succ _) _).setCell (p := ⟨W.heap.size + 1, 1, none⟩) (Nat.le_succ _) _).setCell (p := ⟨W.heap.size + 1, 2, none⟩) (Nat.le_succ _) _
 ·exact Kd.R_mono (Kd.R_far (p := ⟨W.heap.size + 1, 2, none⟩) (Kd.R_far (p := ⟨W.heap.size + 1, 1, none⟩) (Kd.R_far (p := ⟨W.heap.size + 1, 0, none⟩) h.row hne _) hne _) hne _) (fun q hq => by omega)
end
def RtQ (s : ByteArray) (hd : HD) (l : List UInt8) (W : World) (E : Ending) (w' : World) : Prop :=
 Below W.heap.size W w' ∧ ∃ (t : S50) (A : Option Addr) (c : Nat) (q : Int) (ok : Bool), E = .returned (.tuple #[.agg #[.int .i64 t.f0, .int .i64 t.f1, .slice A t.f2.length c], .int .i64 q, .bool ok]) ∧ Kd.R k50 50 w' W.heap.size (fun k => W.heap.size ≤ k) (.slice A t.f2.length c) t.f2 ∧
  ((ok = true ∧ ∃ (r : List UInt8) (p : Nat), tmRG hd l = some (t, r) ∧ q = (p : Int) ∧ At s p r) ∨ (ok = false ∧ tmRG hd l = none))
theorem R_nil_any {α : Type} {d : Kd α} {e : Nat} {w : World} {base : Nat} {ok ok' : Nat → Prop} {v : Value} (h : d.R e w base ok v []) (hok : ∀ k, v.ownBlock = some k → ok' k) : d.R e w base ok' v [] := by
 refine ⟨hok, ?_⟩
 obtain ⟨_, inner, ho, hr⟩ := h
 exact ⟨inner, ho, hr.1, fun j p hj => by simp at hj⟩
theorem hp_3240 {l : List UInt8} (h : Lib.hasPrefix l [32] = true) : Lib.hasPrefix l [32, 40] = Lib.hasPrefix (l.drop 1) [40] := by
 have e := hp_split h
 simp only [l8_, List.length_nil] at e
 generalize hr : l.drop 1 = r at *
 have e : l = [32] ++ r := by first | exact e | (rw [show l.drop (0 + 1) = l.drop 1 from rfl, hr] at e; exact e)
 subst e
 unfold Lib.hasPrefix
 simp
def RhQ (s : ByteArray) (hd : HD) (l : List UInt8) (W : World) (E : Ending) (w' : World) : Prop :=
 Below W.heap.size W w' ∧ ∃ (x1 x2 : Int) (A : Option Addr) (c : Nat) (q : Int) (ok : Bool), E = .returned (.tuple #[.agg #[.int .i64 x1, .int .i64 x2, .slice A 0 c], .int .i64 q, .bool ok]) ∧ Kd.R k50 50 w' W.heap.size (fun k => W.heap.size ≤ k) (.slice A 0 c) [] ∧
  ((ok = true ∧ ∃ (r : List UInt8) (p : Nat), hd l = some ((x1, x2), r) ∧ q = (p : Int) ∧ At s p r) ∨ (ok = false ∧ hd l = none))
theorem rph_at {A0 A1 : Option Addr} {c0 c1 : Nat} {sy : List S71} {fs : List S52} (hc0 : sy.length ≤ c0) (hc1 : fs.length ≤ c1) (hn : sy.length ≤ 100000) (hn2 : fs.length ≤ 100000) (s : ByteArray) (hs : s.size ≤ 70000) (w : World) (l : List UInt8) (p : Nat) (hA : At s p l) (h0 : Kd.C k71 w A0 sy.length sy) (h1 : Kd.C k52 w A1 fs.length fs) :
  Calls Tryz.prog 109 #[.agg #[.slice A0 sy.length c0, .slice A1 fs.length c1], .string s, .int .i64 (p : Int)] w (RhQ s (rhdR (sy.map (·.f0)) (fs.map (·.f0))) l w) := by
 obtain ⟨x1, x2, n, ok, he⟩ : ∃ x1 x2 n ok, hdRes (sy.map (·.f0)) (fs.map (·.f0)) l = (x1, x2, n, ok) := ⟨_, _, _, _, rfl⟩
 have hl := hdRes_len (sy.map (·.f0)) (fs.map (·.f0)) l
 have hr := hdRes_rhdR (sy.map (·.f0)) (fs.map (·.f0)) l
 rw [he] at hl hr
 refine (rph_calls h0 hc0 h1 hc1 hn hn2 s (by omega) hA.le (x1 := x1) (x2 := x2) (n := n) (ok := ok) (by rw [hA.eq]; exact he)).mono fun E w' h => ?_
 obtain ⟨v, rfl, hR, hb⟩ := h
 obtain ⟨A, c, rfl⟩ := Kd.R_slice hR
 refine ⟨hb, x1, x2, A, c, _, ok, rfl, R_nil_any hR (Kd.R_base hR), ?_⟩
 cases ok with
 | true => exact .inl ⟨rfl, l.drop n, p + n, hr, rfl, hA.step hl⟩
 | false => exact .inr ⟨rfl, hr⟩
def w3S (w : World) (b : Nat) (y1 y2 : Int) (v : Value) : World := ((w.setCell ⟨b, 0, none⟩ (.int .i64 y1)).setCell ⟨b, 1, none⟩ (.int .i64 y2)).setCell ⟨b, 2, none⟩ v
theorem FG.stored {W : World} {A0 A1 : Option Addr} {n0 c0 n1 c1 g : Nat} {kn : Int × Int} {acc : List S50} {A : Option Addr} {c : Nat} {w4 w7 : World} {b4 m : Nat} {y1 y2 : Int} {v : Value} {ys : List S50} (h4 : FG W A0 A1 n0 c0 n1 c1 g kn w4 acc A c) (hb : w4.heap.size = b4) (h7 : Below b4 w4 w7) (hx : w7.heap[b4]? = some (.cells #[.int .i64 0, .int .i64 0, .slice none 0 0] 50 (0, 0))) (hm : b4 < m) (hR : Kd.R k50 50 w7 m (fun k => m ≤ k ∧ some k ≠ (Value.slice A acc.length c).ownBlock) v ys) :
  FG W A0 A1 n0 c0 n1 c1 g kn (w3S w7 b4 y1 y2 v) acc A c ∧ (w3S w7 b4 y1 y2 v).heap[b4]? = some (.cells #[.int .i64 y1, .int .i64 y2, v] 50 (0, 0)) ∧ Kd.R k50 50 (w3S w7 b4 y1 y2 v) W.heap.size (fun k => (W.heap.size + 1 < k ∧ k ≠ g) ∧ some k ≠ (Value.slice A acc.length c).ownBlock) v ys := by
 have hg := blk_lt h4.h3
 have hlt := h4.lt
 subst hb
 have hne : ∀ k, (m ≤ k ∧ some k ≠ (Value.slice A acc.length c).ownBlock) → k ≠ w4.heap.size := fun k hk => by have := hk.1; omega
 refine ⟨h4.below (((h7.setCell (p := ⟨w4.heap.size, 0, none⟩) (Nat.le_refl _) _).setCell (p := ⟨w4.heap.size, 1, none⟩) (Nat.le_refl _) _).setCell (p := ⟨w4.heap.size, 2, none⟩) (Nat.le_refl _) _), blk_set (blk_set (blk_set hx 0 _) 1 _) 2 _, ?_⟩
 refine Kd.R_lower (Kd.R_mono (Kd.R_far (p := ⟨w4.heap.size, 2, none⟩) (Kd.R_far (p := ⟨w4.heap.size, 1, none⟩) (Kd.R_far (p := ⟨w4.heap.size, 0, none⟩) hR hne _) hne _) hne _) (fun k hk => ?_)) (by omega)
 have := hk.1
 exact ⟨⟨by omega, by omega⟩, hk.2⟩
set_option maxHeartbeats 16000000 in
set_option maxRecDepth 100000 in
theorem rpt_calls {A0 A1 : Option Addr} {c0 c1 : Nat} {sy : List S71} {fs : List S52} {hd : HD} (HLE : HLe hd) (s : ByteArray) (hs : s.size ≤ 70000)
  (hph : ∀ (w : World) (l : List UInt8) (p : Nat), At s p l → Kd.C k71 w A0 sy.length sy → Kd.C k52 w A1 fs.length fs → Calls Tryz.prog 109 #[.agg #[.slice A0 sy.length c0, .slice A1 fs.length c1], .string s, .int .i64 (p : Int)] w (RhQ s hd l w)) (N : Nat) :
  ∀ (l : List UInt8) (p : Nat) (W : World), l.length < N → At s p l → Kd.C k71 W A0 sy.length sy → Kd.C k52 W A1 fs.length fs → Calls Tryz.prog 62 #[.agg #[.slice A0 sy.length c0, .slice A1 fs.length c1], .string s, .int .i64 (p : Int)] W (RtQ s hd l W) := by
 induction N with
 | zero => intro l p W h; omega
 | succ N ih =>
  intro l p W hN hA hC0 hC1
  have IH := mk0 ih
  have HS := mk0 hs
  have HN := mk0 hN
  have HA := mk0 hA
  have PH := mk0 hph
  have HC := mk0 (⟨hC0, hC1⟩ : Kd.C k71 W A0 sy.length sy ∧ Kd.C k52 W A1 fs.length fs)
  have HLL := mk0 (show l.length ≤ 70000 from by have := hA.len; omega)
  have HB1 := mk0 (aA_ (aA_ (Below.refl W.heap.size W) (.cells #[.slice A0 sy.length c0, .slice A1 fs.length c1] 25)) (.cells #[.int .i64 0, .int .i64 0, .slice none 0 0] 50))
  have HX1 := mk0 (aE_ (aS_ W (.cells #[.slice A0 sy.length c0, .slice A1 fs.length c1] 25)) (.cells #[.int .i64 0, .int .i64 0, .slice none 0 0] 50))
  have HX2 := mk0 (blk_at2 W (.cells #[.slice A0 sy.length c0, .slice A1 fs.length c1] 25) (.cells #[.int .i64 0, .int .i64 0, .slice none 0 0] 50))
  clear ih hs hN hA hph hC0 hC1
  have HLX : Aside0 (HLe hd) := ⟨HLE⟩
  clear HLE
  go_enter Tryz.func62, Tryz.ntmps62
  go_upto_region 1 with (fail)
  generalize ((W.alloc (.cells #[.slice A0 sy.length c0, .slice A1 fs.length c1] 25)).alloc (.cells #[.int .i64 0, .int .i64 0, .slice none 0 0] 50)) = W1 at *
  have k0 : W1.cell? ⟨W.heap.size, 0, none⟩ = some (.slice A0 sy.length c0) := (aC_ HX1.out 0).trans rfl
  have k1 : W1.cell? ⟨W.heap.size, 1, none⟩ = some (.slice A1 fs.length c1) := (aC_ HX1.out 1).trans rfl
  have HH := mk0 (PH.out W1 l p HA.out (Kd.C_below (HC.out).1 HB1.out) (Kd.C_below (HC.out).2 HB1.out))
  unfold RhQ at HH
  go_wp2_with fail
  refine (HH.out).mono ?_
  rintro E w2 ⟨hb, x1, x2, A, c, q, ok, rfl, hR, hv⟩
  have HFG := mk0 (show FG W A0 A1 sy.length c0 fs.length c1 w2.heap.size (x1, x2) (w2.alloc (.cells #[.int .i64 x1, .int .i64 x2, .slice A 0 c] 50)) [] A c from by
   have hs1 := (HB1.out).size
   have h2 := blk_lt HX2.out
   have hs2 := hb.size
   have ba := aA_ (Below.refl w2.heap.size w2) (.cells #[.int .i64 x1, .int .i64 x2, .slice A 0 c] 50)
   refine ⟨aL_ (aL_ HB1.out hs1 hb) (by omega) ba, aJ_ (aJ_ HX1.out hb) ba, aJ_ (aJ_ HX2.out hb) ba, aS_ w2 _, ?_, by omega⟩
   exact Kd.R_below (Kd.R_lower (R_nil_any hR (fun k hk => by have := Kd.R_base hR k hk; have := Kd.R_lt hR k hk; exact ⟨by omega, by omega⟩)) (by omega)) ba)
  have HV := mk0 (show (ok = true ∧ ∃ (l1 : List UInt8) (p1 : Nat), l1.length + 1 ≤ l.length + 1 ∧ q = (p1 : Int) ∧ At s p1 l1 ∧ tmRG hd l = tgA hd (x1, x2) [] l1 ∧ ([] : List S50).length + l1.length ≤ l.length) ∨ (ok = false ∧ tmRG hd l = none) from by
   rcases hv with ⟨e, r, p1, h1, h2, h3⟩ | ⟨e, h1⟩
   ·have := HLX.out h1
    exact .inl ⟨e, r, p1, by simpa using this, h2, h3, by unfold tmRG tgA; rw [h1]; rfl, by simpa using this⟩
   ·exact .inr ⟨e, by unfold tmRG; rw [h1]; rfl⟩)
  clear hb hR hv HH k0 k1
  go_upto_block 0 with (fail)
  generalize (w2.alloc (.cells #[.int .i64 x1, .int .i64 x2, .slice A 0 c] 50)) = w3 at *
  generalize w2.heap.size = g at *
  go_wp2_with fail
  go_loopg [2, 10] (l.length + 1) (fun gg v2 v10 wi => ∃ (acc : List S50) (A : Option Addr) (c : Nat) (q : Int) (ok : Bool), v2 = .int .i64 q ∧ v10 = .bool ok ∧ Aside0 (FG W A0 A1 sy.length c0 fs.length c1 g (x1, x2) wi acc A c) ∧ Aside0 ((ok = true ∧ ∃ (l1 : List UInt8) (p1 : Nat), l1.length + 1 ≤ gg ∧ q = (p1 : Int) ∧ At s p1 l1 ∧ tmRG hd l = tgA hd (x1, x2) acc l1 ∧ acc.length + l1.length ≤ l.length) ∨ (ok = false ∧ tmRG hd l = none)))
  case atStart => exact ⟨[], A, c, q, ok, rfl, rfl, HFG, HV⟩
  case round =>
   clear HFG HV
   obtain ⟨acc, A, c, q, ok, rfl, rfl, HF, HV⟩ := hrel
   cases ok with
   | false =>
    have HNO : Aside0 (tmRG hd l = none) := ⟨by
     rcases HV.out with ⟨h, _⟩ | ⟨_, h⟩
     ·cases h
     ·exact h⟩
    have HO := mk0 (HF.out).out_
    obtain ⟨⟨e0, e1, e2⟩, ⟨d0, d1, d2⟩, f0, f1, f2, _⟩ := (HF.out).cells
    clear HV
    go_wp2
    refine bodyPost_ret (results_row_tmp2 rfl _ _ (W.heap.size + 1) 50 #[.int .i64 x1, .int .i64 x2, .slice A acc.length c] (0, 0) _ rfl (HO.out).2.1 Tryz.underlying50 rfl (by kernel_rfl)) rfl ?_
    exact ⟨(HO.out).1, ⟨x1, x2, acc⟩, A, c, _, false, rfl, (HO.out).2.2, .inr ⟨rfl, HNO.out⟩⟩
   | true =>
    obtain ⟨l1, p1, hgg, rfl, hAT, hE, hL⟩ := ((HV.out).resolve_right (fun h => Bool.noConfusion h.1)).2
    have HAT := mk0 hAT
    have HE := mk0 hE
    have HL := mk0 hL
    have HPL := mk0 (show p1 + l1.length ≤ 70000 from by have := (HAT.out).len; have := HS.out; omega)
    have hw1 : wrap64 ((p1 : Int) + 1) = ((p1 + 1 : Nat) : Int) := by rw [wr_id (by omega) (by have := HPL.out; omega)]; rfl
    have hw2 : wrap64 ((p1 : Int) + 2) = ((p1 + 2 : Nat) : Int) := by rw [wr_id (by omega) (by have := HPL.out; omega)]; rfl
    clear hAT hE hL HV
    have H32 := mk0 (fun W' => bg3_calls s (by have := HS.out; omega) (HAT.out).le (HAT.out).eq ⟨#[32]⟩ (by decide) W')
    rw [show (ByteArray.mk #[32]).data.toList = [32] from rfl] at H32
    go_wp2_with fail
    refine (H32.out _).mono ?_
    rintro E w4 ⟨rfl, hb⟩
    have HF4 := mk0 ((HF.out).below hb)
    clear hb HF H32
    cases q1 : Lib.hasPrefix l1 [32] with
    | false =>
     have HV := mk0 (show tmRG hd l = some (⟨x1, x2, acc⟩, l1) from (HE.out).trans (tgA_end (hd := hd) HLX.out q1))
     have HO := mk0 (HF4.out).out_
     obtain ⟨⟨e0, e1, e2⟩, ⟨d0, d1, d2⟩, f0, f1, f2, _⟩ := (HF4.out).cells
     clear q1 hw1 hw2
     go_wp2
     refine bodyPost_ret (results_row_tmp2 rfl _ _ (W.heap.size + 1) 50 #[.int .i64 x1, .int .i64 x2, .slice A acc.length c] (0, 0) _ rfl (HO.out).2.1 Tryz.underlying50 rfl (by kernel_rfl)) rfl ?_
     exact ⟨(HO.out).1, ⟨x1, x2, acc⟩, A, c, _, true, rfl, (HO.out).2.2, .inl ⟨rfl, l1, p1, HV.out, rfl, HAT.out⟩⟩
    | true =>
     have HQ1 := mk0 q1
     have HP1 := mk0 (hp1_len q1)
     clear q1
     have hg4 := blk_lt (HF4.out).h3
     have HG4 := mk0 hg4
     have ba := aA_ (Below.refl w4.heap.size w4) (.cells #[.int .i64 0, .int .i64 0, .slice none 0 0] 50)
     have HB5 := mk0 ba
     have HF5 := mk0 ((HF4.out).below ba)
     have HX5 := mk0 (aS_ w4 (.cells #[.int .i64 0, .int .i64 0, .slice none 0 0] 50))
     clear ba hg4
     go_upto_region 4 with (fail)
     generalize (w4.alloc (.cells #[.int .i64 0, .int .i64 0, .slice none 0 0] 50)) = w5 at *
     generalize hb4 : w4.heap.size = b4 at *
     have HB4 := mk0 hb4
     clear hb4
     have H40 := mk0 (fun W' => bg3_calls s (by have := HS.out; omega) (HAT.out).le (HAT.out).eq ⟨#[32, 40]⟩ (by decide) W')
     rw [show (ByteArray.mk #[32, 40]).data.toList = [32, 40] from rfl, hp_3240 HQ1.out] at H40
     go_wp2_with fail
     refine (H40.out _).mono ?_
     rintro E w6 ⟨rfl, hb⟩
     have HF6 := mk0 ((HF5.out).below hb)
     have HB6 := mk0 (aL_ HB5.out (by rw [← HB4.out]; exact (HB5.out).size) hb)
     have HX6 := mk0 (aJ_ HX5.out hb)
     clear hb HF5 HB5 HX5 H40
     cases q2 : Lib.hasPrefix (l1.drop 1) [40] with
     | true =>
      have HV := mk0 (tgA_sub (hd := hd) (kn := (x1, x2)) (acc := acc) HLX.out HQ1.out q2)
      have HP2 := mk0 (hp1_len q2)
      have HAT2 := mk0 (show At s (p1 + 2) ((l1.drop 1).drop 1) from by
       have h := (HAT.out).step (n := 2) (by have h1 := HP2.out; rw [l9_] at h1; omega)
       rw [List.drop_drop]
       exact h)
      have HI := mk0 (IH.out ((l1.drop 1).drop 1) (p1 + 2) w6 (by have := HP1.out; have := HL.out; have := HN.out; rw [l9_, l9_]; omega) HAT2.out (Kd.C_below (HC.out).1 (HF6.out).hb) (Kd.C_below (HC.out).2 (HF6.out).hb))
      unfold RtQ at HI
      obtain ⟨k0, k1⟩ := (HF6.out).box
      have HSZ6 := mk0 (show b4 < w6.heap.size from blk_lt HX6.out)
      have HRL := mk0 (Kd.R_lt (HF6.out).row)
      clear q2
      go_wp2_with fail
      refine (HI.out).mono ?_
      rintro E w7 ⟨hb, t, A5, c5, q5, ok5, rfl, hR, hv⟩
      have HF7 := mk0 ((HF6.out).below hb)
      have HB7 := mk0 (aL_ HB6.out (by rw [← HB4.out]; exact (HB6.out).size) hb)
      have HX7 := mk0 (aJ_ HX6.out hb)
      have HR7 := mk0 (Kd.R_new' hR HRL.out)
      have HV5 := mk0 hv
      clear hb hR hv HF6 HB6 HX6 HI k0 k1
      have HLB := mk0 (show (acc.length + 1) * 40 ≤ 140737488355328 by have := HL.out; have := HLL.out; omega)
      have m0 : w7.cell? ⟨b4, 0, none⟩ = some (.int .i64 0) := (aC_ HX7.out 0).trans rfl
      have m1 : w7.cell? ⟨b4, 1, none⟩ = some (.int .i64 0) := (aC_ HX7.out 1).trans rfl
      have m2 : w7.cell? ⟨b4, 2, none⟩ = some (.slice none 0 0) := (aC_ HX7.out 2).trans rfl
      have n0 := aF_ HX7.out 0
      have n1 := aF_ HX7.out 1
      have n2 := aF_ HX7.out 2
      have HS9 := mk0 ((HF4.out).stored (y1 := t.f0) (y2 := t.f1) HB4.out HB7.out HX7.out HSZ6.out HR7.out)
      cases ok5 with
      | false =>
       have HNO := mk0 (show tmRG hd l = none from by
        rcases HV5.out with ⟨h, _⟩ | ⟨_, h⟩
        ·cases h
        ·rw [HE.out, HV.out, h]; rfl)
       go_upto_region 9 with (fail)
       clear m0 m1 m2 n0 n1 n2
       unfold w3S at HS9
       generalize (((w7.setCell ⟨b4, 0, none⟩ (.int .i64 t.f0)).setCell ⟨b4, 1, none⟩ (.int .i64 t.f1)).setCell ⟨b4, 2, none⟩ (.slice A5 t.f2.length c5)) = w8 at *
       have HF8 := mk0 (HS9.out).1
       have HX8 := mk0 (HS9.out).2.1
       have HR8 := mk0 (HS9.out).2.2
       clear HS9
       have p0 := (aC_ HX8.out 0).trans (show _ = some (Value.int .i64 t.f0) from rfl)
       have p1_ := (aC_ HX8.out 1).trans (show _ = some (Value.int .i64 t.f1) from rfl)
       have p2_ := (aC_ HX8.out 2).trans (show _ = some (Value.slice A5 t.f2.length c5) from rfl)
       have d2 := (HF8.out).cells.2.1.2.2
       go_wp2_with ((with_reducible refine gate_builtin (b := .append) (xs := #[.tmp 62, .tmp 64]) rfl ?_); at_builtin; refine Kd.R_append k50 (w0 := W) W.heap.size rfl (.tmp 62) (.tmp 64) 48 50 (.agg #[.int .i64 0, .int .i64 0, .slice none 0 0]) 40 rfl Tryz.underlying48 Q.info50 rfl (show 0 < 3 by decide) (by decide) (.slice A acc.length c) acc t [.int .i64 t.f0, .int .i64 t.f1, .slice A5 t.f2.length c5] (fun k => W.heap.size + 1 < k ∧ k ≠ g) (fun k => (W.heap.size + 1 < k ∧ k ≠ g) ∧ some k ≠ (Value.slice A acc.length c).ownBlock) rfl rfl (Q.k50_mkM _ _ _ t HR8.out) (fun _ hk => hk) (fun k hk => by have := blk_lt (HF8.out).h3; have := (HF8.out).lt; exact ⟨by omega, by omega⟩) (HF8.out).row (HF8.out).hb (HF8.out).hb.size HLB.out ?_; intro v9 w19 ho5 hb5 hg5 hat5; (obtain ⟨A9, c9, rfl⟩ := Kd.R_slice ho5); have HF9 := mk0 ((HF8.out).push ho5 hb5 hg5); have hGG := (HF8.out).grown hg5; have c6 := hGG.1; have f6 := hGG.2; clear hGG ho5 hb5 hg5 hat5)
       go_roundg 0
       case measure => omega
       case rel => exact ⟨acc ++ [t], A9, c9, _, false, rfl, rfl, HF9, ⟨.inr ⟨rfl, HNO.out⟩⟩⟩
      | true =>
       obtain ⟨r5, p5, hr5, rfl, hA5⟩ := ((HV5.out).resolve_right (fun h => Bool.noConfusion h.1)).2
       have HR5 := mk0 hr5
       have HA5 := mk0 hA5
       have HLE5 := mk0 (show r5.length + 2 ≤ l1.length from by
        have h1 := tmRG_le (hd := hd) HLX.out hr5
        have h2 := HP2.out
        simp only [l9_] at h1 h2
        omega)
       have HPL5 := mk0 (show p5 ≤ 70000 from by have := hA5.le; have := HS.out; omega)
       have hw5 : wrap64 ((p5 : Int) + 1) = ((p5 + 1 : Nat) : Int) := by rw [wr_id (by omega) (by have := HPL5.out; omega)]; rfl
       clear hr5 hA5 HV5
       go_upto_region 6 with (fail)
       clear m0 m1 m2 n0 n1 n2
       unfold w3S at HS9
       generalize (((w7.setCell ⟨b4, 0, none⟩ (.int .i64 t.f0)).setCell ⟨b4, 1, none⟩ (.int .i64 t.f1)).setCell ⟨b4, 2, none⟩ (.slice A5 t.f2.length c5)) = w8 at *
       have HF8 := mk0 (HS9.out).1
       have HX8 := mk0 (HS9.out).2.1
       have HR8 := mk0 (HS9.out).2.2
       clear HS9
       have p0 := (aC_ HX8.out 0).trans (show _ = some (Value.int .i64 t.f0) from rfl)
       have p1_ := (aC_ HX8.out 1).trans (show _ = some (Value.int .i64 t.f1) from rfl)
       have p2_ := (aC_ HX8.out 2).trans (show _ = some (Value.slice A5 t.f2.length c5) from rfl)
       have d2 := (HF8.out).cells.2.1.2.2
       by_cases hz : t.f2.length = 0
       ·have hzz : ¬ ((t.f2.length : Int) > 0) := by omega
        have HNO := mk0 (show tmRG hd l = none from by rw [HE.out, HV.out, HR5.out]; simp only [l23_]; rw [if_pos hz])
        clear hz
        go_upto_region 9 with (fail)
        go_wp2_with ((with_reducible refine gate_builtin (b := .append) (xs := #[.tmp 62, .tmp 64]) rfl ?_); at_builtin; refine Kd.R_append k50 (w0 := W) W.heap.size rfl (.tmp 62) (.tmp 64) 48 50 (.agg #[.int .i64 0, .int .i64 0, .slice none 0 0]) 40 rfl Tryz.underlying48 Q.info50 rfl (show 0 < 3 by decide) (by decide) (.slice A acc.length c) acc t [.int .i64 t.f0, .int .i64 t.f1, .slice A5 t.f2.length c5] (fun k => W.heap.size + 1 < k ∧ k ≠ g) (fun k => (W.heap.size + 1 < k ∧ k ≠ g) ∧ some k ≠ (Value.slice A acc.length c).ownBlock) rfl rfl (Q.k50_mkM _ _ _ t HR8.out) (fun _ hk => hk) (fun k hk => by have := blk_lt (HF8.out).h3; have := (HF8.out).lt; exact ⟨by omega, by omega⟩) (HF8.out).row (HF8.out).hb (HF8.out).hb.size HLB.out ?_; intro v9 w19 ho5 hb5 hg5 hat5; (obtain ⟨A9, c9, rfl⟩ := Kd.R_slice ho5); have HF9 := mk0 ((HF8.out).push ho5 hb5 hg5); have hGG := (HF8.out).grown hg5; have c6 := hGG.1; have f6 := hGG.2; clear hGG ho5 hb5 hg5 hat5)
        go_roundg 0
        case measure => omega
        case rel => exact ⟨acc ++ [t], A9, c9, _, false, rfl, rfl, HF9, ⟨.inr ⟨rfl, HNO.out⟩⟩⟩
       ·have hzz : (t.f2.length : Int) > 0 := by omega
        have HZ0 := mk0 hz
        clear hz
        have H41 := mk0 (fun W' => bg3_calls s (by have := HS.out; omega) (HA5.out).le (HA5.out).eq ⟨#[41]⟩ (by decide) W')
        rw [show (ByteArray.mk #[41]).data.toList = [41] from rfl] at H41
        go_wp2_with fail
        refine (H41.out _).mono ?_
        rintro E w10 ⟨rfl, hb⟩
        have HF10 := mk0 ((HF8.out).below hb)
        have HX10 := mk0 (aJ_ HX8.out hb)
        have HR10 := mk0 (Kd.R_below HR8.out hb)
        clear hb HF8 HX8 HR8 H41 p0 p1_ p2_ d2
        cases q3 : Lib.hasPrefix r5 [41] with
        | false =>
         have HNO := mk0 (show tmRG hd l = none from by rw [HE.out, HV.out, HR5.out]; simp only [l23_]; rw [if_neg HZ0.out, q3]; simp)
         clear q3
         have p0 := (aC_ HX10.out 0).trans (show _ = some (Value.int .i64 t.f0) from rfl)
         have p1_ := (aC_ HX10.out 1).trans (show _ = some (Value.int .i64 t.f1) from rfl)
         have p2_ := (aC_ HX10.out 2).trans (show _ = some (Value.slice A5 t.f2.length c5) from rfl)
         have d2 := (HF10.out).cells.2.1.2.2
         go_upto_region 9 with (fail)
         go_wp2_with ((with_reducible refine gate_builtin (b := .append) (xs := #[.tmp 62, .tmp 64]) rfl ?_); at_builtin; refine Kd.R_append k50 (w0 := W) W.heap.size rfl (.tmp 62) (.tmp 64) 48 50 (.agg #[.int .i64 0, .int .i64 0, .slice none 0 0]) 40 rfl Tryz.underlying48 Q.info50 rfl (show 0 < 3 by decide) (by decide) (.slice A acc.length c) acc t [.int .i64 t.f0, .int .i64 t.f1, .slice A5 t.f2.length c5] (fun k => W.heap.size + 1 < k ∧ k ≠ g) (fun k => (W.heap.size + 1 < k ∧ k ≠ g) ∧ some k ≠ (Value.slice A acc.length c).ownBlock) rfl rfl (Q.k50_mkM _ _ _ t HR10.out) (fun _ hk => hk) (fun k hk => by have := blk_lt (HF10.out).h3; have := (HF10.out).lt; exact ⟨by omega, by omega⟩) (HF10.out).row (HF10.out).hb (HF10.out).hb.size HLB.out ?_; intro v9 w19 ho5 hb5 hg5 hat5; (obtain ⟨A9, c9, rfl⟩ := Kd.R_slice ho5); have HF9 := mk0 ((HF10.out).push ho5 hb5 hg5); have hGG := (HF10.out).grown hg5; have c6 := hGG.1; have f6 := hGG.2; clear hGG ho5 hb5 hg5 hat5)
         go_roundg 0
         case measure => omega
         case rel => exact ⟨acc ++ [t], A9, c9, _, false, rfl, rfl, HF9, ⟨.inr ⟨rfl, HNO.out⟩⟩⟩
        | true =>
         have HP3 := mk0 (hp1_len q3)
         have HGO := mk0 (show tmRG hd l = tgA hd (x1, x2) (acc ++ [t]) (r5.drop 1) from by rw [HE.out, HV.out, HR5.out]; simp only [l23_]; rw [if_neg HZ0.out, q3, if_pos rfl])
         have HA6 := mk0 ((HA5.out).step (n := 1) HP3.out)
         clear q3
         have p0 := (aC_ HX10.out 0).trans (show _ = some (Value.int .i64 t.f0) from rfl)
         have p1_ := (aC_ HX10.out 1).trans (show _ = some (Value.int .i64 t.f1) from rfl)
         have p2_ := (aC_ HX10.out 2).trans (show _ = some (Value.slice A5 t.f2.length c5) from rfl)
         have d2 := (HF10.out).cells.2.1.2.2
         go_upto_region 9 with (fail)
         go_wp2_with ((with_reducible refine gate_builtin (b := .append) (xs := #[.tmp 62, .tmp 64]) rfl ?_); at_builtin; refine Kd.R_append k50 (w0 := W) W.heap.size rfl (.tmp 62) (.tmp 64) 48 50 (.agg #[.int .i64 0, .int .i64 0, .slice none 0 0]) 40 rfl Tryz.underlying48 Q.info50 rfl (show 0 < 3 by decide) (by decide) (.slice A acc.length c) acc t [.int .i64 t.f0, .int .i64 t.f1, .slice A5 t.f2.length c5] (fun k => W.heap.size + 1 < k ∧ k ≠ g) (fun k => (W.heap.size + 1 < k ∧ k ≠ g) ∧ some k ≠ (Value.slice A acc.length c).ownBlock) rfl rfl (Q.k50_mkM _ _ _ t HR10.out) (fun _ hk => hk) (fun k hk => by have := blk_lt (HF10.out).h3; have := (HF10.out).lt; exact ⟨by omega, by omega⟩) (HF10.out).row (HF10.out).hb (HF10.out).hb.size HLB.out ?_; intro v9 w19 ho5 hb5 hg5 hat5; (obtain ⟨A9, c9, rfl⟩ := Kd.R_slice ho5); have HF9 := mk0 ((HF10.out).push ho5 hb5 hg5); have hGG := (HF10.out).grown hg5; have c6 := hGG.1; have f6 := hGG.2; clear hGG ho5 hb5 hg5 hat5)
         go_roundg l1.length
         case measure => omega
         case rel => exact ⟨acc ++ [t], A9, c9, _, true, by first | rfl | rw [hw5], rfl, HF9, ⟨.inl ⟨rfl, r5.drop 1, p5 + 1, by have := HLE5.out; rw [l9_]; omega, by first | rfl | rw [hw5], HA6.out, HGO.out, by have := HLE5.out; have := HL.out; rw [l7_, l10_, l9_]; omega⟩⟩⟩
     | false =>
      have HV := mk0 (tgA_head (hd := hd) (kn := (x1, x2)) (acc := acc) HLX.out HQ1.out q2)
      have HAT2 := mk0 ((HAT.out).step (n := 1) HP1.out)
      have HI := mk0 (PH.out w6 (l1.drop 1) (p1 + 1) HAT2.out (Kd.C_below (HC.out).1 (HF6.out).hb) (Kd.C_below (HC.out).2 (HF6.out).hb))
      unfold RhQ at HI
      obtain ⟨k0, k1⟩ := (HF6.out).box
      have HSZ6 := mk0 (show b4 < w6.heap.size from blk_lt HX6.out)
      have HRL := mk0 (Kd.R_lt (HF6.out).row)
      have HSUF := mk0 (show (l1.drop 1).length + 1 = l1.length from by have := HP1.out; rw [l9_]; omega)
      clear q2
      go_wp2_with fail
      refine (HI.out).mono ?_
      rintro E w7 ⟨hb, y1, y2, A5, c5, q5, ok5, rfl, hR, hv⟩
      have HF7 := mk0 ((HF6.out).below hb)
      have HB7 := mk0 (aL_ HB6.out (by rw [← HB4.out]; exact (HB6.out).size) hb)
      have HX7 := mk0 (aJ_ HX6.out hb)
      have HR7 := mk0 (Kd.R_new' hR HRL.out)
      have HV5 := mk0 (show (ok5 = true ∧ ∃ (l2 : List UInt8) (p2 : Nat), l2.length + 1 ≤ l1.length ∧ q5 = (p2 : Int) ∧ At s p2 l2 ∧ tmRG hd l = tgA hd (x1, x2) (acc ++ [⟨y1, y2, []⟩]) l2 ∧ (acc ++ [(⟨y1, y2, []⟩ : S50)]).length + l2.length ≤ l.length) ∨ (ok5 = false ∧ tmRG hd l = none) from by
       rcases hv with ⟨e, r, p2, h1, h2, h3⟩ | ⟨e, h1⟩
       ·have := HLX.out h1
        have h5 := HSUF.out
        have h6 := HL.out
        have h7 := HP1.out
        simp only at this
        refine .inl ⟨e, r, p2, by omega, h2, h3, by rw [HE.out, HV.out, h1]; rfl, by rw [l7_, l10_]; omega⟩
       ·exact .inr ⟨e, by rw [HE.out, HV.out, h1]; rfl⟩)
      have HLB := mk0 (show (acc.length + 1) * 40 ≤ 140737488355328 by have := HL.out; have := HLL.out; omega)
      have m0 : w7.cell? ⟨b4, 0, none⟩ = some (.int .i64 0) := (aC_ HX7.out 0).trans rfl
      have m1 : w7.cell? ⟨b4, 1, none⟩ = some (.int .i64 0) := (aC_ HX7.out 1).trans rfl
      have m2 : w7.cell? ⟨b4, 2, none⟩ = some (.slice none 0 0) := (aC_ HX7.out 2).trans rfl
      have n0 := aF_ HX7.out 0
      have n1 := aF_ HX7.out 1
      have n2 := aF_ HX7.out 2
      clear hb hR hv HF6 HB6 HX6 HI k0 k1 HV
      go_upto_region 9 with (fail)
      have HS9 := mk0 ((HF4.out).stored (y1 := y1) (y2 := y2) HB4.out HB7.out HX7.out HSZ6.out HR7.out)
      clear m0 m1 m2 n0 n1 n2
      unfold w3S at HS9
      generalize (((w7.setCell ⟨b4, 0, none⟩ (.int .i64 y1)).setCell ⟨b4, 1, none⟩ (.int .i64 y2)).setCell ⟨b4, 2, none⟩ (.slice A5 0 c5)) = w8 at *
      have HF8 := mk0 (HS9.out).1
      have HX8 := mk0 (HS9.out).2.1
      have HR8 := mk0 (HS9.out).2.2
      clear HS9
      have p0 := (aC_ HX8.out 0).trans (show _ = some (Value.int .i64 y1) from rfl)
      have p1_ := (aC_ HX8.out 1).trans (show _ = some (Value.int .i64 y2) from rfl)
      have p2_ := (aC_ HX8.out 2).trans (show _ = some (Value.slice A5 0 c5) from rfl)
      have d2 := (HF8.out).cells.2.1.2.2
      go_wp2_with ((with_reducible refine gate_builtin (b := .append) (xs := #[.tmp 62, .tmp 64]) rfl ?_); at_builtin; refine Kd.R_append k50 (w0 := W) W.heap.size rfl (.tmp 62) (.tmp 64) 48 50 (.agg #[.int .i64 0, .int .i64 0, .slice none 0 0]) 40 rfl Tryz.underlying48 Q.info50 rfl (show 0 < 3 by decide) (by decide) (.slice A acc.length c) acc (⟨y1, y2, []⟩ : S50) [.int .i64 y1, .int .i64 y2, .slice A5 0 c5] (fun k => W.heap.size + 1 < k ∧ k ≠ g) (fun k => (W.heap.size + 1 < k ∧ k ≠ g) ∧ some k ≠ (Value.slice A acc.length c).ownBlock) rfl rfl (Q.k50_mkM _ _ _ (⟨y1, y2, []⟩ : S50) HR8.out) (fun _ hk => hk) (fun k hk => by have := blk_lt (HF8.out).h3; have := (HF8.out).lt; exact ⟨by omega, by omega⟩) (HF8.out).row (HF8.out).hb (HF8.out).hb.size HLB.out ?_; intro v9 w19 ho5 hb5 hg5 hat5; (obtain ⟨A9, c9, rfl⟩ := Kd.R_slice ho5); have HF9 := mk0 ((HF8.out).push ho5 hb5 hg5); have hGG := (HF8.out).grown hg5; have c6 := hGG.1; have f6 := hGG.2; clear hGG ho5 hb5 hg5 hat5)
      go_roundg l1.length
      case measure => omega
      case rel => exact ⟨acc ++ [⟨y1, y2, []⟩], A9, c9, q5, ok5, rfl, rfl, HF9, HV5⟩
theorem rterm_calls {A0 A1 : Option Addr} {c0 c1 : Nat} {sy : List S71} {fs : List S52} (hc0 : sy.length ≤ c0) (hc1 : fs.length ≤ c1) (hn : sy.length ≤ 100000) (hn2 : fs.length ≤ 100000) (s : ByteArray) (hs : s.size ≤ 70000) (l : List UInt8) (p : Nat) (W : World) (hA : At s p l) (h0 : Kd.C k71 W A0 sy.length sy) (h1 : Kd.C k52 W A1 fs.length fs) :
  Calls Tryz.prog 62 #[.agg #[.slice A0 sy.length c0, .slice A1 fs.length c1], .string s, .int .i64 (p : Int)] W (RtQ s (rhdR (sy.map (·.f0)) (fs.map (·.f0))) l W) :=
 rpt_calls (rhdR_le _ _) s hs (rph_at hc0 hc1 hn hn2 s hs) (l.length + 1) l p W (Nat.lt_succ_self _) hA h0 h1
theorem rword_at (s : ByteArray) (hs : s.size ≤ 70000) {p : Nat} {l : List UInt8} (hA : At s p l) (W : World) :
  Calls Tryz.prog 106 #[.string s, .int .i64 (p : Int)] W fun E w' => E = .returned (.int .i64 ((p + (l.takeWhile wch).length : Nat) : Int)) ∧ Below W.heap.size W w' := by
 obtain ⟨k, hk⟩ := (word_ev s (by omega) hA.le).rounds
 rw [hA.eq] at hk
 exact (Q.virgationref03_word.calls k s (p : Int) _ W hk).mono fun e w' h => ⟨h.1, h.2.below⟩
theorem rnum_at (s : ByteArray) (hs : s.size ≤ 70000) {p : Nat} {l : List UInt8} (hA : At s p l) (W : World) :
  Calls Tryz.prog 107 #[.string s, .int .i64 (p : Int)] W fun E w' => E = .returned (.tuple #[.int .i64 (rval (rdig l)), .int .i64 ((p + (rdig l).length : Nat) : Int), .bool (rnumOk l)]) ∧ Below W.heap.size W w' := by
 obtain ⟨k, hk⟩ := (number_ev s (by omega) hA.le).rounds
 rw [hA.eq] at hk
 exact (Q.virgationref03_number.calls k s (p : Int) _ _ _ W hk).mono fun e w' h => ⟨h.1, h.2.below⟩
structure FN (W W1 : World) (sy : List S71) (fs : List S52) (bo : List Int) (A1 : Option Addr) (c1 : Nat) (A2 : Option Addr) (c2 : Nat) (A3 : Option Addr) (c3 : Nat) : Prop where
 hb : Below W.heap.size W W1
 h1 : W1.heap[W.heap.size]? = some (.cells #[.slice none 0 0, .slice none 0 0] 25 (0, 0))
 h2 : W1.heap[W.heap.size + 1]? = some (.cells #[.slice A1 sy.length c1, .slice A2 fs.length c2] 25 (0, 0))
 r1 : Kd.R k71 71 W1 W.heap.size (fun k => W.heap.size + 1 < k) (.slice A1 sy.length c1) sy
 r2 : Kd.R k52 52 W1 W.heap.size (fun k => W.heap.size + 1 < k) (.slice A2 fs.length c2) fs
 r3 : Kd.R (Kd.int .i64) 3 W1 W.heap.size (fun k => W.heap.size + 1 < k) (.slice A3 bo.length c3) bo
structure FN' (W W1 : World) (sy : List S71) (fs : List S52) (bo : List Int) (A1 : Option Addr) (c1 : Nat) (A2 : Option Addr) (c2 : Nat) (A3 : Option Addr) (c3 : Nat) : Prop where
 r1 : Kd.R k71 71 W1 W.heap.size (fun k => W.heap.size + 1 < k) (.slice A1 sy.length c1) sy
 r2 : Kd.R k52 52 W1 W.heap.size (fun k => W.heap.size + 1 < k) (.slice A2 fs.length c2) fs
 r3 : Kd.R (Kd.int .i64) 3 W1 W.heap.size (fun k => W.heap.size + 1 < k) (.slice A3 bo.length c3) bo
def wOut2 (W W1 : World) (v1 v2 : Value) : World := (W1.setCell ⟨W.heap.size, 0, none⟩ v1).setCell ⟨W.heap.size, 1, none⟩ v2
section
variable {W W1 W2 : World} {sy : List S71} {fs : List S52} {bo : List Int} {A1 : Option Addr} {c1 : Nat} {A2 : Option Addr} {c2 : Nat} {A3 : Option Addr} {c3 : Nat}
theorem FN.below (h : FN W W1 sy fs bo A1 c1 A2 c2 A3 c3) (hb : Below W1.heap.size W1 W2) : FN W W2 sy fs bo A1 c1 A2 c2 A3 c3 :=
 ⟨aL_ h.hb h.hb.size hb, aJ_ h.h1 hb, aJ_ h.h2 hb, Kd.R_below h.r1 hb, Kd.R_below h.r2 hb, Kd.R_below h.r3 hb⟩
theorem FN.cells (h : FN W W1 sy fs bo A1 c1 A2 c2 A3 c3) : (W1.cell? ⟨W.heap.size, 0, none⟩ = some (.slice none 0 0) ∧ W1.cell? ⟨W.heap.size, 1, none⟩ = some (.slice none 0 0)) ∧ (W1.cell? ⟨W.heap.size + 1, 0, none⟩ = some (.slice A1 sy.length c1) ∧ W1.cell? ⟨W.heap.size + 1, 1, none⟩ = some (.slice A2 fs.length c2)) ∧ W1.frozen? ⟨W.heap.size, 0, none⟩ = false ∧ W1.frozen? ⟨W.heap.size, 1, none⟩ = false ∧ W1.frozen? ⟨W.heap.size + 1, 0, none⟩ = false ∧ W1.frozen? ⟨W.heap.size + 1, 1, none⟩ = false :=
 ⟨⟨(aC_ h.h1 0).trans rfl, (aC_ h.h1 1).trans rfl⟩, ⟨(aC_ h.h2 0).trans rfl, (aC_ h.h2 1).trans rfl⟩, aF_ h.h1 0, aF_ h.h1 1, aF_ h.h2 0, aF_ h.h2 1⟩
theorem FN.lt (h : FN W W1 sy fs bo A1 c1 A2 c2 A3 c3) : W.heap.size + 1 < W1.heap.size := blk_lt h.h2
theorem FN.push1 {y : S71} {A : Option Addr} {c : Nat} (h : FN W W1 sy fs bo A1 c1 A2 c2 A3 c3) (ho : Kd.R k71 71 W2 W.heap.size (fun k => W.heap.size + 1 < k) (.slice A (sy ++ [y]).length c) (sy ++ [y])) (hb : Below W.heap.size W W2) (hg : W1.grownBy W2 (Value.slice A1 sy.length c1).ownBlock) :
  FN W (W2.setCell ⟨W.heap.size + 1, 0, none⟩ (.slice A (sy.length + 1) c)) (sy ++ [y]) fs bo A c A2 c2 A3 c3 := by
 rw [show sy.length + 1 = (sy ++ [y]).length from by simp]
 have hr : ∀ k, (Value.slice A1 sy.length c1).ownBlock = some k → W.heap.size + 1 < k := h.r1.1
 have ne : ∀ k, W.heap.size + 1 < k → k ≠ W.heap.size + 1 := fun k hk => by omega
 exact ⟨hb.setCell (p := ⟨W.heap.size + 1, 0, none⟩) (Nat.le_succ _) _, blk_far (aU_ h.h1 hg (fun e => by have := hr _ e.symm; omega)) (by show W.heap.size ≠ W.heap.size + 1; omega) _, blk_set (aU_ h.h2 hg (fun e => by have := hr _ e.symm; omega)) 0 _, Kd.R_far ho ne _, Kd.R_far (Kd.R_over h.r2 h.r1 (by decide) hg) ne _, Kd.R_far (Kd.R_over h.r3 h.r1 (by decide) hg) ne _⟩
theorem FN.push2 {y : S52} {A : Option Addr} {c : Nat} (h : FN W W1 sy fs bo A1 c1 A2 c2 A3 c3) (ho : Kd.R k52 52 W2 W.heap.size (fun k => W.heap.size + 1 < k) (.slice A (fs ++ [y]).length c) (fs ++ [y])) (hb : Below W.heap.size W W2) (hg : W1.grownBy W2 (Value.slice A2 fs.length c2).ownBlock) :
  FN W (W2.setCell ⟨W.heap.size + 1, 1, none⟩ (.slice A (fs.length + 1) c)) sy (fs ++ [y]) bo A1 c1 A c A3 c3 := by
 rw [show fs.length + 1 = (fs ++ [y]).length from by simp]
 have hr : ∀ k, (Value.slice A2 fs.length c2).ownBlock = some k → W.heap.size + 1 < k := h.r2.1
 have ne : ∀ k, W.heap.size + 1 < k → k ≠ W.heap.size + 1 := fun k hk => by omega
 exact ⟨hb.setCell (p := ⟨W.heap.size + 1, 1, none⟩) (Nat.le_succ _) _, blk_far (aU_ h.h1 hg (fun e => by have := hr _ e.symm; omega)) (by show W.heap.size ≠ W.heap.size + 1; omega) _, blk_set (aU_ h.h2 hg (fun e => by have := hr _ e.symm; omega)) 1 _, Kd.R_far (Kd.R_over h.r1 h.r2 (by decide) hg) ne _, Kd.R_far ho ne _, Kd.R_far (Kd.R_over h.r3 h.r2 (by decide) hg) ne _⟩
theorem FN.push3 {y : Int} {A : Option Addr} {c : Nat} (h : FN W W1 sy fs bo A1 c1 A2 c2 A3 c3) (ho : Kd.R (Kd.int .i64) 3 W2 W.heap.size (fun k => W.heap.size + 1 < k) (.slice A (bo ++ [y]).length c) (bo ++ [y])) (hb : Below W.heap.size W W2) (hg : W1.grownBy W2 (Value.slice A3 bo.length c3).ownBlock) :
  FN W W2 sy fs (bo ++ [y]) A1 c1 A2 c2 A c := by
 have hr : ∀ k, (Value.slice A3 bo.length c3).ownBlock = some k → W.heap.size + 1 < k := h.r3.1
 exact ⟨hb, aU_ h.h1 hg (fun e => by have := hr _ e.symm; omega), aU_ h.h2 hg (fun e => by have := hr _ e.symm; omega), Kd.R_over h.r1 h.r3 (by decide) hg, Kd.R_over h.r2 h.r3 (by decide) hg, ho⟩
theorem FN.grown {row : Option Nat} (h : FN W W1 sy fs bo A1 c1 A2 c2 A3 c3) (hg : W1.grownBy W2 row) (hr : ∀ k, row = some k → W.heap.size + 1 < k) : (W2.cell? ⟨W.heap.size + 1, 0, none⟩ = some (.slice A1 sy.length c1) ∧ W2.cell? ⟨W.heap.size + 1, 1, none⟩ = some (.slice A2 fs.length c2)) ∧ W2.frozen? ⟨W.heap.size + 1, 0, none⟩ = false ∧ W2.frozen? ⟨W.heap.size + 1, 1, none⟩ = false := by
 have h3 := aU_ h.h2 hg (fun e => by have := hr _ e.symm; omega)
 exact ⟨⟨(aC_ h3 0).trans rfl, (aC_ h3 1).trans rfl⟩, aF_ h3 0, aF_ h3 1⟩
theorem FN.out_ (h : FN W W1 sy fs bo A1 c1 A2 c2 A3 c3) : Below W.heap.size W (wOut2 W W1 (.slice A1 sy.length c1) (.slice A2 fs.length c2)) ∧ (wOut2 W W1 (.slice A1 sy.length c1) (.slice A2 fs.length c2)).heap[W.heap.size]? = some (.cells #[.slice A1 sy.length c1, .slice A2 fs.length c2] 25 (0, 0)) ∧ FN' W (wOut2 W W1 (.slice A1 sy.length c1) (.slice A2 fs.length c2)) sy fs bo A1 c1 A2 c2 A3 c3 := by
 have hne : ∀ q, W.heap.size + 1 < q → q ≠ W.heap.size := fun q hq => by omega
 exact ⟨(h.hb.setCell (p := ⟨W.heap.size, 0, none⟩) (Nat.le_refl _) _).setCell (p := ⟨W.heap.size, 1, none⟩) (Nat.le_refl _) _, blk_set (blk_set h.h1 0 _) 1 _, Kd.R_far (p := ⟨W.heap.size, 1, none⟩) (Kd.R_far (p := ⟨W.heap.size, 0, none⟩) h.r1 hne _) hne _, Kd.R_far (p := ⟨W.heap.size, 1, none⟩) (Kd.R_far (p := ⟨W.heap.size, 0, none⟩) h.r2 hne _) hne _, Kd.R_far (p := ⟨W.heap.size, 1, none⟩) (Kd.R_far (p := ⟨W.heap.size, 0, none⟩) h.r3 hne _) hne _⟩
end
structure BoOk (s : ByteArray) (ps : List Nat) (its : List RIt) : Prop where
 len : ps.length = its.length
 at_ : ∀ (j : Nat) (h1 : j < ps.length) (h2 : j < its.length), At s ps[j] its[j].body
theorem BoOk.nil (s : ByteArray) : BoOk s [] [] := ⟨rfl, fun j h => absurd h (by simp)⟩
theorem BoOk.snoc {s : ByteArray} {ps : List Nat} {its : List RIt} {p : Nat} {i : RIt} (h : BoOk s ps its) (hp : At s p i.body) : BoOk s (ps ++ [p]) (its ++ [i]) := by
 have hl := h.len
 refine ⟨by simp [hl], fun j h1 h2 => ?_⟩
 by_cases hj : j < ps.length
 ·rw [List.getElem_append_left hj, List.getElem_append_left (by omega)]
  exact h.at_ j hj (by omega)
 ·rw [l7_, l10_] at h1
  rw [List.getElem_append_right (by omega), List.getElem_append_right (by omega)]
  simp only [List.getElem_singleton]
  exact hp
def zro (i : RIt) : S52 := ⟨i.nm, i.s, ⟨0, 0, []⟩⟩
def NmQ (s : ByteArray) (l : List UInt8) (W : World) (E : Ending) (w' : World) : Prop :=
 Below W.heap.size W w' ∧ ∃ (sy : List S71) (fs : List S52) (bo : List Int) (A1 : Option Addr) (c1 : Nat) (A2 : Option Addr) (c2 : Nat) (A3 : Option Addr) (c3 : Nat) (n3 : Nat) (ok : Bool), E = .returned (.tuple #[.agg #[.slice A1 sy.length c1, .slice A2 fs.length c2], .slice A3 n3 c3, .bool ok]) ∧
  FN' W w' sy fs bo A1 c1 A2 c2 A3 c3 ∧ ((ok = true ∧ ∃ (its : List RIt) (ps : List Nat), n3 = bo.length ∧ rnames l = some (sy, its) ∧ fs = its.map zro ∧ bo = ps.map (fun p : Nat => (p : Int)) ∧ BoOk s ps its) ∨ (ok = false ∧ rnames l = none))
set_option maxHeartbeats 16000000 in
set_option maxRecDepth 100000 in
theorem rnames_calls (s : ByteArray) (hs : s.size ≤ 70000) (W : World) : Calls Tryz.prog 61 #[.string s] W (NmQ s s.data.toList W) := by
 have HS := mk0 hs
 have HA0 := mk0 (show At s 0 s.data.toList from ⟨Nat.zero_le _, rfl⟩)
 generalize hl : s.data.toList = l at *
 have HLL := mk0 (show l.length ≤ 70000 from by have := (HA0.out).len; omega)
 have HF := mk0 (show FN W ((W.alloc (.cells #[.slice none 0 0, .slice none 0 0] 25)).alloc (.cells #[.slice none 0 0, .slice none 0 0] 25)) [] [] [] none 0 none 0 none 0 from ⟨aA_ (aA_ (Below.refl _ _) _) _, aE_ (aS_ W _) _, blk_at2 W _ _, Kd.R_nil _ _ _ _ _, Kd.R_nil _ _ _ _ _, Kd.R_nil _ _ _ _ _⟩)
 clear hs hl
 go_enter Tryz.func61, Tryz.ntmps61
 go_upto_block 0 with (fail)
 generalize ((W.alloc (.cells #[.slice none 0 0, .slice none 0 0] 25)).alloc (.cells #[.slice none 0 0, .slice none 0 0] 25)) = W1 at *
 go_wp2_with fail
 have HE0 := mk0 (show ∃ n, rnSyms (l.length + 1) [] l = rnSyms n [] l ∧ l.length + 1 ≤ n from ⟨_, rfl, Nat.le_refl _⟩)
 go_loopg [7] (l.length + 1) (fun gg v7 wi => ∃ (sy : List S71) (l1 : List UInt8) (p1 : Nat) (A1 : Option Addr) (c1 : Nat), l1.length + 1 ≤ gg ∧ v7 = .int .i64 (p1 : Int) ∧ Aside0 (∃ n, rnSyms (l.length + 1) [] l = rnSyms n sy l1 ∧ l1.length + 1 ≤ n) ∧ Aside0 (sy.length + l1.length ≤ l.length) ∧ Aside0 (At s p1 l1) ∧ Aside0 (FN W wi sy [] [] A1 c1 none 0 none 0))
 case atStart => exact ⟨[], l, 0, none, 0, Nat.le_refl _, rfl, HE0, ⟨by simp⟩, HA0, HF⟩
 case round =>
  clear HF HA0 HE0
  obtain ⟨sy, l1, p1, A1, c1, hgg, rfl, HE, HL, HAT, HF⟩ := hrel
  have HPL := mk0 (show p1 + l1.length ≤ 70000 from by have := (HAT.out).len; have := HS.out; omega)
  have hw7 : wrap64 ((p1 : Int) + 7) = ((p1 + 7 : Nat) : Int) := by rw [wr_id (by omega) (by have := HPL.out; omega)]; rfl
  have H7 := mk0 (fun W' => bg3_calls s (by have := HS.out; omega) (HAT.out).le (HAT.out).eq ⟨#[115, 121, 109, 98, 111, 108, 32]⟩ (by decide) W')
  rw [show (ByteArray.mk #[115, 121, 109, 98, 111, 108, 32]).data.toList = pSym from rfl] at H7
  go_wp2_with fail
  refine (H7.out _).mono ?_
  rintro E w2 ⟨rfl, hb⟩
  have HF2 := mk0 ((HF.out).below hb)
  clear hb HF H7
  cases q1 : Lib.hasPrefix l1 pSym with
  | false =>
   have HV := mk0 (show rnSyms (l.length + 1) [] l = some (sy, l1) from by
    obtain ⟨n, h1, h2⟩ := HE.out
    rw [h1]
    cases n with
    | zero => omega
    | succ n => rw [rnSyms, q1]; rfl)
   clear q1 hw7 HE
   have HRN := mk0 (show rnames l = (rnFuns (l1.length + 1) [] l1).bind fun q => if q.2 = [] then some (sy, q.1) else none from by unfold rnames; rw [HV.out]; rfl)
   have HL0 := mk0 (show l1.length ≤ 70000 from by have := HPL.out; omega)
   clear HV HL HLL HPL hgg
   go_wp2_with fail
   have HE0 := mk0 (show ∃ n, rnFuns (l1.length + 1) [] l1 = rnFuns n [] l1 ∧ l1.length + 1 ≤ n from ⟨_, rfl, Nat.le_refl _⟩)
   go_loopg [6, 7] (l1.length + 1) (fun gg v6 v7 wi => ∃ (its : List RIt) (ps : List Nat) (fs : List S52) (bo : List Int) (l2 : List UInt8) (p2 : Nat) (A2 : Option Addr) (c2 : Nat) (A3 : Option Addr) (c3 : Nat), l2.length + 1 ≤ gg ∧ v6 = .slice A3 bo.length c3 ∧ v7 = .int .i64 (p2 : Int) ∧ Aside0 (∃ n, rnFuns (l1.length + 1) [] l1 = rnFuns n its l2 ∧ l2.length + 1 ≤ n) ∧ Aside0 (fs.length + l2.length ≤ l1.length ∧ bo.length = fs.length) ∧ Aside0 (At s p2 l2) ∧ Aside0 (fs = its.map zro ∧ bo = ps.map (fun p : Nat => (p : Int)) ∧ BoOk s ps its) ∧ Aside0 (FN W wi sy fs bo A1 c1 A2 c2 A3 c3))
   case atStart => exact ⟨[], [], [], [], l1, p1, none, 0, none, 0, Nat.le_refl _, rfl, rfl, HE0, ⟨by simp⟩, HAT, ⟨rfl, rfl, BoOk.nil s⟩, HF2⟩
   case round =>
    clear HF2 HAT HE0
    obtain ⟨its, ps, fs, bo, l2, p2, A2, c2, A3, c3, hgg, rfl, rfl, HE, HL, HAT, HB, HF⟩ := hrel
    have HPL := mk0 (show p2 + l2.length = s.size ∧ s.size ≤ 70000 from ⟨(HAT.out).len, HS.out⟩)
    have hw4 : wrap64 ((p2 : Int) + 4) = ((p2 + 4 : Nat) : Int) := by rw [wr_id (by omega) (by have := HPL.out; omega)]; rfl
    have H7 := mk0 (fun W' => bg3_calls s (by have := HS.out; omega) (HAT.out).le (HAT.out).eq ⟨#[102, 117, 110, 32]⟩ (by decide) W')
    rw [show (ByteArray.mk #[102, 117, 110, 32]).data.toList = pFun from rfl] at H7
    go_wp2_with fail
    refine (H7.out _).mono ?_
    rintro E w3 ⟨rfl, hb⟩
    have HF3 := mk0 ((HF.out).below hb)
    clear hb HF H7
    cases q1 : Lib.hasPrefix l2 pFun with
    | false =>
     have HV := mk0 (show rnames l = if l2 = [] then some (sy, its) else none from by
      obtain ⟨n, h1, h2⟩ := HE.out
      rw [HRN.out, h1]
      cases n with
      | zero => omega
      | succ n => rw [rnFuns, q1]; rfl)
     clear q1 hw4 HE
     have HO := mk0 (HF3.out).out_
     obtain ⟨⟨e0, e1⟩, ⟨d0, d1⟩, f0, f1, _, _⟩ := (HF3.out).cells
     have HOK := mk0 (show l2 = [] ↔ (p2 : Int) = (s.size : Int) from by
      have := HPL.out
      constructor
      ·rintro rfl; simp at this; omega
      ·intro h; exact List.length_eq_zero_iff.1 (by omega))
     go_wp2
     refine bodyPost_ret (results_row_tmp2 rfl _ _ W.heap.size 25 #[.slice A1 sy.length c1, .slice A2 fs.length c2] (0, 0) _ rfl (HO.out).2.1 Tryz.underlying25 rfl (by kernel_rfl)) rfl ?_
     refine ⟨(HO.out).1, sy, fs, bo, A1, c1, A2, c2, A3, c3, bo.length, _, rfl, (HO.out).2.2, ?_⟩
     by_cases hz : l2 = []
     ·have := (HOK.out).1 hz
      refine .inl ⟨by simpa using this, its, ps, rfl, by rw [HV.out, if_pos hz], (HB.out).1, (HB.out).2.1, (HB.out).2.2⟩
     ·have : ¬ (p2 : Int) = (s.size : Int) := fun h => hz ((HOK.out).2 h)
      refine .inr ⟨by simpa using this, by rw [HV.out, if_neg hz]⟩
    | true =>
     obtain ⟨m, hm⟩ : ∃ m, l2.drop 4 = m := ⟨_, rfl⟩
     have HLM := mk0 (show m.length + 4 = l2.length from by have h := hp_len q1; rw [← hm, l9_]; have : pFun.length = 4 := rfl; omega)
     have HAM := mk0 (show At s (p2 + 4) m from by have h := (HAT.out).step (n := 4) (hp_len q1); rw [hm] at h; exact h)
     have HE2 := mk0 (show ∃ n, rnFuns (l1.length + 1) [] l1 = ((rfunStep m).bind fun p => rnFuns n (its ++ [p.1]) p.2) ∧ l2.length ≤ n from by
      obtain ⟨n, h1, h2⟩ := HE.out
      cases n with
      | zero => omega
      | succ n => exact ⟨n, by rw [h1, rnFuns, q1, if_pos rfl, hm], by omega⟩)
     have HWL := mk0 (tw_len wch m)
     have HWD := mk0 (fun W' => rword_at s HS.out HAM.out W')
     have HXT := mk0 (show s.extract (p2 + 4) (p2 + 4 + (m.takeWhile wch).length) = (⟨(m.takeWhile wch).toArray⟩ : ByteArray) from by
      have h := ext_tw s (p := p2 + 4) wch
      rw [(HAM.out).eq] at h
      exact h)
     have HAW := mk0 ((HAM.out).step (n := (m.takeWhile wch).length) HWL.out)
     clear q1 hm HE
     go_wp2_with fail
     refine (HWD.out _).mono ?_
     rintro E w4 ⟨rfl, hb⟩
     have HF4 := mk0 ((HF3.out).below hb)
     have HB9 := mk0 (show p2 + 4 + (m.takeWhile wch).length ≤ s.size ∧ s.size ≤ 70000 from ⟨(HAW.out).le, HS.out⟩)
     clear hb HF3 HWD
     have HR := mk0 (show rfunStep m = if nameB ⟨(m.takeWhile wch).toArray⟩ = true ∧ Lib.hasPrefix (m.drop (m.takeWhile wch).length) [32, 58, 32] = true then
      (srtR [] ((m.drop (m.takeWhile wch).length).drop 3)).bind fun p =>
       if Lib.hasPrefix p.2 [32, 61, 32] = true then (if p.2.dropWhile ne10 = [] then none else some (⟨⟨(m.takeWhile wch).toArray⟩, p.1, p.2.drop 3⟩, (p.2.dropWhile ne10).drop 1)) else none
      else none from rfl)
     generalize hK : (m.takeWhile wch).length = K at *
     have b0 : (0 : Int) ≤ (p2 : Int) + 4 := by omega
     have b1 : (p2 : Int) + 4 ≤ (p2 : Int) + 4 + (K : Int) := by omega
     have b2 : (p2 : Int) + 4 + (K : Int) ≤ (s.size : Int) := by have := (HB9.out).1; omega
     go_upto_region 17 with (fail)
     rw [HXT.out]
     generalize (⟨(m.takeWhile wch).toArray⟩ : ByteArray) = nm at *
     generalize hm1 : m.drop K = m1 at *
     have HNA := mk0 (fun W' => rname_calls nm W')
     clear b0 b1 b2 HXT hK hm1
     go_wp2_with fail
     refine (HNA.out _).mono ?_
     rintro E w5 ⟨rfl, hb⟩
     have HF5 := mk0 ((HF4.out).below hb)
     clear hb HF4 HNA
     cases q2 : nameB nm with
     | false =>
      have HNR := mk0 (show rfunStep m = none from by rw [HR.out, q2]; rfl)
      clear q2
      have HNO := mk0 (show rnames l = none from by obtain ⟨n, h1, h2⟩ := HE2.out; rw [HRN.out, h1, HNR.out]; rfl)
      have HO := mk0 (HF5.out).out_
      obtain ⟨⟨e0, e1⟩, ⟨d0, d1⟩, f0, f1, _, _⟩ := (HF5.out).cells
      go_wp2
      refine bodyPost_ret (results_row_tmp2 rfl _ _ W.heap.size 25 #[.slice A1 sy.length c1, .slice A2 fs.length c2] (0, 0) _ rfl (HO.out).2.1 Tryz.underlying25 rfl (by kernel_rfl)) rfl ?_
      exact ⟨(HO.out).1, sy, fs, [], A1, c1, A2, c2, none, 0, 0, false, by rfl, ⟨(HO.out).2.2.r1, (HO.out).2.2.r2, Kd.R_nil _ _ _ _ _⟩, .inr ⟨rfl, HNO.out⟩⟩
     | true =>
      have HQ2 := mk0 q2
      have H3 := mk0 (fun W' => bg3_calls s (by have := HS.out; omega) (HAW.out).le (HAW.out).eq ⟨#[32, 58, 32]⟩ (by decide) W')
      rw [show (ByteArray.mk #[32, 58, 32]).data.toList = [32, 58, 32] from rfl] at H3
      clear q2
      go_wp2_with fail
      refine (H3.out _).mono ?_
      rintro E w6 ⟨rfl, hb⟩
      have HF6 := mk0 ((HF5.out).below hb)
      clear hb HF5 H3
      cases q3 : Lib.hasPrefix m1 [32, 58, 32] with
      | false =>
       have HNR := mk0 (show rfunStep m = none from by rw [HR.out, q3]; simp)
       clear q3
       have HNO := mk0 (show rnames l = none from by obtain ⟨n, h1, h2⟩ := HE2.out; rw [HRN.out, h1, HNR.out]; rfl)
       have HO := mk0 (HF6.out).out_
       obtain ⟨⟨e0, e1⟩, ⟨d0, d1⟩, f0, f1, _, _⟩ := (HF6.out).cells
       go_wp2
       refine bodyPost_ret (results_row_tmp2 rfl _ _ W.heap.size 25 #[.slice A1 sy.length c1, .slice A2 fs.length c2] (0, 0) _ rfl (HO.out).2.1 Tryz.underlying25 rfl (by kernel_rfl)) rfl ?_
       exact ⟨(HO.out).1, sy, fs, [], A1, c1, A2, c2, none, 0, 0, false, by rfl, ⟨(HO.out).2.2.r1, (HO.out).2.2.r2, Kd.R_nil _ _ _ _ _⟩, .inr ⟨rfl, HNO.out⟩⟩
      | true =>
       have HQ3 := mk0 q3
       have HAN := mk0 ((HAW.out).step (n := 3) (hp_len q3))
       have HLK := mk0 (show (m1.drop 3).length + 3 ≤ m.length from by
        have h1 := (HAW.out).len
        have h2 := (HAM.out).len
        have h3 := hp_len q3
        simp only [l8_, List.length_nil] at h3
        rw [l9_]
        omega)
       generalize hm2 : m1.drop 3 = m2 at *
       have hw8 : wrap64 ((p2 : Int) + 4 + (K : Int) + 3) = ((p2 + 4 + K + 3 : Nat) : Int) := by rw [wr_id (by omega) (by have := HB9.out; omega)]; omega
       have HPA := mk0 (fun W' => rparse_calls s HS.out (m2.length + 1) m2 (p2 + 4 + K + 3) W' (Nat.lt_succ_self _) HAN.out)
       unfold PsQ at HPA
       have HRL2 := mk0 (Kd.R_lt (HF6.out).r2)
       have HSZ6 := mk0 (HF6.out).lt
       clear q3 hm2
       go_wp2_with fail
       refine (HPA.out _).mono ?_
       rintro E w7 ⟨hb, x, Ax, cx, q, ok, rfl, hR, hv⟩
       have HF7 := mk0 ((HF6.out).below hb)
       have HR7 := mk0 (Kd.R_new' hR HRL2.out)
       have HVV := mk0 hv
       have HSZ7 := mk0 hb.size
       clear hb hR hv HF6 HPA
       go_upto_region 20 with (fail)
       have bx := aA_ (Below.refl w7.heap.size w7) (.cells #[.slice Ax x.f0.length cx] 47)
       have HX8 := mk0 (aS_ w7 (.cells #[.slice Ax x.f0.length cx] 47))
       have HF8 := mk0 ((HF7.out).below bx)
       have HR8 := mk0 (Kd.R_lower (base' := W.heap.size) (Kd.R_mono (ok' := fun k => W.heap.size + 1 < k ∧ some k ≠ (Value.slice A2 fs.length c2).ownBlock) (Kd.R_below HR7.out bx) (fun k hk => ⟨by have := HSZ6.out; omega, hk.2⟩)) (by have := HSZ6.out; omega))
       have HNB := mk0 (show W.heap.size + 1 < w7.heap.size from by have := HSZ6.out; have := HSZ7.out; omega)
       clear bx HF7 HR7
       generalize (w7.alloc (.cells #[.slice Ax x.f0.length cx] 47)) = w8 at *
       generalize w7.heap.size = b4 at *
       have m0 : w8.cell? ⟨b4, 0, none⟩ = some (.slice Ax x.f0.length cx) := (aC_ HX8.out 0).trans rfl
       cases ok with
       | false =>
        have HNR := mk0 (show rfunStep m = none from by
         rcases HVV.out with ⟨h, _⟩ | ⟨_, h⟩
         ·cases h
         ·rw [HR.out, if_pos ⟨HQ2.out, HQ3.out⟩, h]; rfl)
        have HNO := mk0 (show rnames l = none from by obtain ⟨n, h1, h2⟩ := HE2.out; rw [HRN.out, h1, HNR.out]; rfl)
        have HO := mk0 (HF8.out).out_
        obtain ⟨⟨e0, e1⟩, ⟨d0, d1⟩, f0, f1, _, _⟩ := (HF8.out).cells
        go_wp2
        refine bodyPost_ret (results_row_tmp2 rfl _ _ W.heap.size 25 #[.slice A1 sy.length c1, .slice A2 fs.length c2] (0, 0) _ rfl (HO.out).2.1 Tryz.underlying25 rfl (by kernel_rfl)) rfl ?_
        exact ⟨(HO.out).1, sy, fs, [], A1, c1, A2, c2, none, 0, 0, false, by rfl, ⟨(HO.out).2.2.r1, (HO.out).2.2.r2, Kd.R_nil _ _ _ _ _⟩, .inr ⟨rfl, HNO.out⟩⟩
       | true =>
        obtain ⟨r, hr, hq⟩ := ((HVV.out).resolve_right (fun h => Bool.noConfusion h.1)).2
        subst hq
        have HRS := mk0 hr
        have HATR := mk0 ((HAN.out).suf (srtR_sound hr).1)
        have HLR := mk0 (srtR_less hr)
        clear hr HVV
        generalize hQ : s.size - r.length = qq at *
        clear hQ
        have H61 := mk0 (fun W' => bg3_calls s (by have := HS.out; omega) (HATR.out).le (HATR.out).eq ⟨#[32, 61, 32]⟩ (by decide) W')
        rw [show (ByteArray.mk #[32, 61, 32]).data.toList = [32, 61, 32] from rfl] at H61
        go_wp2_with fail
        refine (H61.out _).mono ?_
        rintro E w9 ⟨rfl, hb⟩
        have HF9 := mk0 ((HF8.out).below hb)
        have HX9 := mk0 (aJ_ HX8.out hb)
        have HR9 := mk0 (Kd.R_below HR8.out hb)
        clear hb HF8 HX8 HR8 H61 m0
        cases q4 : Lib.hasPrefix r [32, 61, 32] with
        | false =>
         have HNR := mk0 (show rfunStep m = none from by rw [HR.out, if_pos ⟨HQ2.out, HQ3.out⟩, HRS.out]; simp only [l23_]; rw [q4]; rfl)
         clear q4
         have HNO := mk0 (show rnames l = none from by obtain ⟨n, h1, h2⟩ := HE2.out; rw [HRN.out, h1, HNR.out]; rfl)
         have HO := mk0 (HF9.out).out_
         obtain ⟨⟨e0, e1⟩, ⟨d0, d1⟩, f0, f1, _, _⟩ := (HF9.out).cells
         go_wp2
         refine bodyPost_ret (results_row_tmp2 rfl _ _ W.heap.size 25 #[.slice A1 sy.length c1, .slice A2 fs.length c2] (0, 0) _ rfl (HO.out).2.1 Tryz.underlying25 rfl (by kernel_rfl)) rfl ?_
         exact ⟨(HO.out).1, sy, fs, [], A1, c1, A2, c2, none, 0, 0, false, by rfl, ⟨(HO.out).2.2.r1, (HO.out).2.2.r2, Kd.R_nil _ _ _ _ _⟩, .inr ⟨rfl, HNO.out⟩⟩
        | true =>
         have HQ4 := mk0 q4
         have HAB := mk0 ((HATR.out).step (n := 3) (hp_len q4))
         have HLQ := mk0 (show qq + r.length = s.size ∧ s.size ≤ 70000 ∧ r.length + 7 ≤ l2.length from by
          have h1 := (HATR.out).len
          have h2 := HLR.out
          have h3 := HLK.out
          have h4 := HLM.out
          exact ⟨h1, HS.out, by omega⟩)
         have HLB := mk0 (show (fs.length + 1) * 80 ≤ 140737488355328 ∧ (bo.length + 1) * 8 ≤ 140737488355328 by have h1 := HL.out; have := HL0.out; omega)
         have hw6 : wrap64 ((qq : Int) + 3) = ((qq + 3 : Nat) : Int) := by rw [wr_id (by omega) (by have := HLQ.out; omega)]; omega
         have m0 : w9.cell? ⟨b4, 0, none⟩ = some (.slice Ax x.f0.length cx) := (aC_ HX9.out 0).trans rfl
         obtain ⟨⟨e0, e1⟩, ⟨d0, d1⟩, f0, f1, g0, g1⟩ := (HF9.out).cells
         clear q4
         go_upto_region 23 with ((with_reducible refine gate_builtin (b := .append) (xs := #[.tmp 107, .tmp 111]) rfl ?_); at_builtin; refine Kd.R_append k52 (w0 := W) W.heap.size rfl (.tmp 107) (.tmp 111) 23 52 (.agg #[.string ⟨#[]⟩, .slice none 0 0, .int .i64 0, .int .i64 0, .slice none 0 0]) 80 rfl Tryz.underlying23 Q.info52 rfl (show 0 < 5 by decide) (by decide) (.slice A2 fs.length c2) fs (⟨nm, x, ⟨0, 0, []⟩⟩ : S52) [.string nm, .slice Ax x.f0.length cx, .int .i64 0, .int .i64 0, .slice none 0 0] (fun k => W.heap.size + 1 < k) (fun k => W.heap.size + 1 < k ∧ some k ≠ (Value.slice A2 fs.length c2).ownBlock) rfl rfl (Q.k52_mkM _ _ _ ⟨nm, x, ⟨0, 0, []⟩⟩ HR9.out (Kd.R_nil _ _ _ _ _)) (fun _ hk => hk) (fun k hk => l12_ (HF9.out).lt hk) (HF9.out).r2 (HF9.out).hb (HF9.out).hb.size (HLB.out).1 ?_; intro v9 w19 ho5 hb5 hg5 hat5; (obtain ⟨A9, c9, rfl⟩ := Kd.R_slice ho5); have HF10 := mk0 ((HF9.out).push2 ho5 hb5 hg5); have hGG := (HF9.out).grown hg5 (fun k hk => (HF9.out).r2.1 k hk); have c6 := hGG.1.2; have f6 := hGG.2.2; clear hGG ho5 hb5 hg5 hat5)
         clear m0 e0 e1 d0 d1 f0 f1 g0 g1 c6 f6 HF9 HX9 HR9
         generalize (w19.setCell ⟨W.heap.size + 1, 1, none⟩ (.slice A9 (fs.length + 1) c9)) = w10 at *
         go_upto_block 4 with ((with_reducible refine gate_builtin (b := .append) (xs := #[.tmp 114, .tmp 117]) rfl ?_); at_builtin; refine Kd.R_append (Kd.int .i64) (w0 := W) W.heap.size rfl (.tmp 114) (.tmp 117) 39 3 (.int .i64 0) 8 rfl Tryz.underlying39 info3 rfl (by decide) (by decide) (.slice A3 bo.length c3) bo ((qq : Int) + 3) [.int .i64 ((qq : Int) + 3)] (fun k => W.heap.size + 1 < k) (fun _ => False) rfl rfl rfl (fun _ hk => hk.elim) (fun k hk => l12_ (HF10.out).lt hk) (HF10.out).r3 (HF10.out).hb (HF10.out).hb.size (HLB.out).2 ?_; intro v11 w11 ho5 hb5 hg5 hat5; (obtain ⟨A10, c10, rfl⟩ := Kd.R_slice ho5); have HF11 := mk0 ((HF10.out).push3 ho5 hb5 hg5); clear ho5 hb5 hg5 hat5)
         obtain ⟨fsN, hfsN⟩ : ∃ fsN, fs ++ [(⟨nm, x, ⟨0, 0, []⟩⟩ : S52)] = fsN := ⟨_, rfl⟩
         have HFS := mk0 hfsN.symm
         rw [hfsN] at HF11
         clear hfsN HF10
         go_wp2_with fail
         go_loopg [7] r.length (fun gg v7 wi => ∃ (l4 : List UInt8) (p4 : Nat), l4.length ≤ gg ∧ v7 = .int .i64 (p4 : Int) ∧ wi = w11 ∧ Aside0 (At s p4 l4) ∧ Aside0 (r.dropWhile ne10 = l4.dropWhile ne10 ∧ l4.length ≤ r.length))
         case atStart => exact ⟨r, qq, Nat.le_refl _, rfl, rfl, HATR, ⟨rfl, Nat.le_refl _⟩⟩
         case round =>
          obtain ⟨l4, p4, hgg2, rfl, rfl, HA4, HD4⟩ := hrel
          cases l4 with
          | nil =>
           have hp : (p4 : Int) = (s.size : Int) := by have h := (HA4.out).len; simp at h; omega
           have HNR := mk0 (show rfunStep m = none from by
            rw [HR.out, if_pos ⟨HQ2.out, HQ3.out⟩, HRS.out]
            simp only [l23_]
            rw [HQ4.out, if_pos rfl, (HD4.out).1]
            rfl)
           have HNO := mk0 (show rnames l = none from by obtain ⟨n, h1, h2⟩ := HE2.out; rw [HRN.out, h1, HNR.out]; rfl)
           have HO := mk0 (HF11.out).out_
           obtain ⟨⟨e0, e1⟩, ⟨d0, d1⟩, f0, f1, _, _⟩ := (HF11.out).cells
           go_wp2
           refine bodyPost_ret (results_row_tmp2 rfl _ _ W.heap.size 25 #[.slice A1 sy.length c1, .slice A9 fsN.length c9] (0, 0) _ rfl (HO.out).2.1 Tryz.underlying25 rfl (by kernel_rfl)) rfl ?_
           exact ⟨(HO.out).1, sy, fsN, [], A1, c1, A9, c9, none, 0, 0, false, by rfl, ⟨(HO.out).2.2.r1, (HO.out).2.2.r2, Kd.R_nil _ _ _ _ _⟩, .inr ⟨rfl, HNO.out⟩⟩
          | cons u t =>
           have HSZ4 := mk0 (show p4 + t.length + 1 = s.size ∧ s.size ≤ 70000 from by have h := (HA4.out).len; have := HS.out; simp only [l8_] at h; omega)
           have hlt : (p4 : Int) < (s.size : Int) := by have := HSZ4.out; omega
           have hge : (0 : Int) ≤ (p4 : Int) := Int.natCast_nonneg _
           have hne : ¬ (p4 : Int) = (s.size : Int) := by omega
           have HBT := mk0 (show bt s (p4 : Int) = (u.toNat : Int) from by
            have h1 := (HA4.out).eq
            have hl2 : p4 < s.data.toList.length := by rw [← Lib.size_eq]; omega
            rw [dropS hl2] at h1
            rw [bt_list hl2]
            have := (List.cons.inj h1).1
            rw [this])
           have HA5 := mk0 ((HA4.out).step (n := 1) (by simp))
           have hw1 : wrap64 ((p4 : Int) + 1) = ((p4 + 1 : Nat) : Int) := by rw [wr_id (by omega) (by have := HSZ4.out; omega)]; rfl
           have hl3 : p4 < s.size := Int.ofNat_lt.1 hlt
           have hx3 : s[p4]'hl3 = u := by
            have h1 := (HA4.out).eq
            have hl2 : p4 < s.data.toList.length := by rw [← Lib.size_eq]; exact hl3
            rw [dropS hl2] at h1
            have h2 := (List.cons.inj h1).1
            show s.data[p4]'hl3 = u
            rw [← Array.getElem_toList]
            exact h2
           have hq3 : ((p4 : Int) == (s.size : Int)) = false := by simpa using hne
           by_cases hu : u = 10
           ·subst hu
            have HNR := mk0 (show rfunStep m = some (⟨nm, x, r.drop 3⟩, t) from by
             rw [HR.out, if_pos ⟨HQ2.out, HQ3.out⟩, HRS.out]
             simp only [l23_]
             rw [HQ4.out, if_pos rfl, (HD4.out).1]
             rfl)
            have hb10 : (((s[p4]'hl3).toNat : Int) != 10) = false := by rw [hx3, show (10 : UInt8).toNat = 10 from rfl]; decide
            clear hx3
            have HE5 := mk0 (show ∃ n, rnFuns (l1.length + 1) [] l1 = rnFuns n (its ++ [⟨nm, x, r.drop 3⟩]) t ∧ t.length + 1 ≤ n from by
             obtain ⟨n, h1, h2⟩ := HE2.out
             have h3 := (HD4.out).2
             have h4 := HLQ.out
             simp only [l8_] at h3
             exact ⟨n, by rw [h1, HNR.out]; rfl, by omega⟩)
            have HL5 := mk0 (show fsN.length + t.length ≤ l1.length ∧ (bo ++ [(qq : Int) + 3]).length = fsN.length from by
             have h1 := HL.out
             have h3 := (HD4.out).2
             have h4 := HLQ.out
             simp only [l8_] at h3
             rw [HFS.out, l7_, l7_, l10_, l10_]
             omega)
            have HB5 := mk0 (show fsN = (its ++ [(⟨nm, x, r.drop 3⟩ : RIt)]).map zro ∧ bo ++ [(qq : Int) + 3] = (ps ++ [qq + 3]).map (fun p : Nat => (p : Int)) ∧ BoOk s (ps ++ [qq + 3]) (its ++ [(⟨nm, x, r.drop 3⟩ : RIt)]) from by
             obtain ⟨h1, h2, h3⟩ := HB.out
             refine ⟨?_, ?_, h3.snoc HAB.out⟩
             ·rw [HFS.out, List.map_append, ← h1]; rfl
             ·rw [List.map_append, ← h2]; rfl)
            have HG5 := mk0 (show t.length + 1 ≤ l2.length from by
             have h3 := (HD4.out).2
             have h4 := HLQ.out
             simp only [l8_] at h3
             omega)
            go_wp2
            go_roundg l2.length
            case measure => omega
            case rel => exact ⟨its ++ [⟨nm, x, r.drop 3⟩], ps ++ [qq + 3], fsN, bo ++ [(qq : Int) + 3], t, p4 + 1, A9, c9, A10, c10, HG5.out, by first | rfl | (rw [l7_, l10_]), by first | rfl | rw [hw1], HE5, HL5, HA5, HB5, HF11⟩
           ·have hb10 : (((s[p4]'hl3).toNat : Int) != 10) = true := by
             rw [hx3, bne_iff_ne]
             intro h
             apply hu
             apply UInt8.toNat_inj.1
             have : (u.toNat : Int) = 10 := h
             show u.toNat = 10
             omega
            clear hx3
            have HD5 := mk0 (show r.dropWhile ne10 = t.dropWhile ne10 ∧ t.length ≤ r.length from by
             have h1 := HD4.out
             refine ⟨h1.1.trans ?_, by have := h1.2; simp only [l8_] at this; omega⟩
             rw [List.dropWhile_cons, if_pos (by unfold ne10; exact l2_ hu)])
            go_wp2
            go_roundg t.length
            case measure => simp only [l8_] at hgg2; omega
            case rel => exact ⟨t, p4 + 1, Nat.le_refl _, by first | rfl | rw [hw1], rfl, HA5, HD5⟩
  | true =>
   have HP1 := mk0 (hp_len q1)
   obtain ⟨m, hm⟩ : ∃ m, l1.drop 7 = m := ⟨_, rfl⟩
   have HLM := mk0 (show m.length + 7 = l1.length from by have h := hp_len q1; rw [← hm, l9_]; have : pSym.length = 7 := rfl; omega)
   have HAM := mk0 (show At s (p1 + 7) m from by have h := (HAT.out).step (n := 7) (hp_len q1); rw [hm] at h; exact h)
   have HE2 := mk0 (show ∃ n, rnSyms (l.length + 1) [] l = ((rsymStep m).bind fun p => rnSyms n (sy ++ [p.1]) p.2) ∧ l1.length ≤ n from by
    obtain ⟨n, h1, h2⟩ := HE.out
    cases n with
    | zero => omega
    | succ n => exact ⟨n, by rw [h1, rnSyms, q1, if_pos rfl, hm], by omega⟩)
   have HWL := mk0 (tw_len wch m)
   have HWD := mk0 (fun W' => rword_at s HS.out HAM.out W')
   have HXT := mk0 (show s.extract (p1 + 7) (p1 + 7 + (m.takeWhile wch).length) = (⟨(m.takeWhile wch).toArray⟩ : ByteArray) from by
    have h := ext_tw s (p := p1 + 7) wch
    rw [(HAM.out).eq] at h
    exact h)
   have HAW := mk0 ((HAM.out).step (n := (m.takeWhile wch).length) HWL.out)
   clear q1 hm HE
   go_wp2_with fail
   refine (HWD.out _).mono ?_
   rintro E w3 ⟨rfl, hb⟩
   have HF3 := mk0 ((HF2.out).below hb)
   have HB9 := mk0 (show p1 + 7 + (m.takeWhile wch).length ≤ s.size ∧ s.size ≤ 70000 from ⟨(HAW.out).le, HS.out⟩)
   clear hb HF2 HWD
   have HR := mk0 (show rsymStep m = if nameB ⟨(m.takeWhile wch).toArray⟩ = true ∧ Lib.hasPrefix (m.drop (m.takeWhile wch).length) [32] = true then
    (if rnumOk ((m.drop (m.takeWhile wch).length).drop 1) = true ∧ Lib.hasPrefix (((m.drop (m.takeWhile wch).length).drop 1).drop (rdig ((m.drop (m.takeWhile wch).length).drop 1)).length) [10] = true then
     some (⟨⟨(m.takeWhile wch).toArray⟩, rval (rdig ((m.drop (m.takeWhile wch).length).drop 1))⟩, (((m.drop (m.takeWhile wch).length).drop 1).drop (rdig ((m.drop (m.takeWhile wch).length).drop 1)).length).drop 1)
    else none) else none from rfl)
   generalize hK : (m.takeWhile wch).length = K at *
   have b0 : (0 : Int) ≤ (p1 : Int) + 7 := by omega
   have b1 : (p1 : Int) + 7 ≤ (p1 : Int) + 7 + (K : Int) := by omega
   have b2 : (p1 : Int) + 7 + (K : Int) ≤ (s.size : Int) := by have := (HB9.out).1; omega
   go_upto_region 7 with (fail)
   rw [HXT.out]
   generalize (⟨(m.takeWhile wch).toArray⟩ : ByteArray) = nm at *
   generalize hm1 : m.drop K = m1 at *
   have HNA := mk0 (fun W' => rname_calls nm W')
   clear b0 b1 b2 HXT hK hm1
   go_wp2_with fail
   refine (HNA.out _).mono ?_
   rintro E w4 ⟨rfl, hb⟩
   have HF4 := mk0 ((HF3.out).below hb)
   clear hb HF3 HNA
   cases q2 : nameB nm with
   | false =>
    have HNR := mk0 (show rsymStep m = none from by rw [HR.out, q2]; rfl)
    clear q2
    have HNO := mk0 (show rnames l = none from by obtain ⟨n, h1, h2⟩ := HE2.out; unfold rnames; rw [h1, HNR.out]; rfl)
    have HO := mk0 (HF4.out).out_
    obtain ⟨⟨e0, e1⟩, ⟨d0, d1⟩, f0, f1, _, _⟩ := (HF4.out).cells
    go_wp2
    refine bodyPost_ret (results_row_tmp2 rfl _ _ W.heap.size 25 #[.slice A1 sy.length c1, .slice none 0 0] (0, 0) _ rfl (HO.out).2.1 Tryz.underlying25 rfl (by kernel_rfl)) rfl ?_
    exact ⟨(HO.out).1, sy, [], [], A1, c1, none, 0, none, 0, 0, false, rfl, (HO.out).2.2, .inr ⟨rfl, HNO.out⟩⟩
   | true =>
    have HQ2 := mk0 q2
    have H32 := mk0 (fun W' => bg3_calls s (by have := HS.out; omega) (HAW.out).le (HAW.out).eq ⟨#[32]⟩ (by decide) W')
    rw [show (ByteArray.mk #[32]).data.toList = [32] from rfl] at H32
    clear q2
    go_wp2_with fail
    refine (H32.out _).mono ?_
    rintro E w5 ⟨rfl, hb⟩
    have HF5 := mk0 ((HF4.out).below hb)
    clear hb HF4 H32
    cases q3 : Lib.hasPrefix m1 [32] with
    | false =>
     have HNR := mk0 (show rsymStep m = none from by rw [HR.out, q3]; simp)
     clear q3
     have HNO := mk0 (show rnames l = none from by obtain ⟨n, h1, h2⟩ := HE2.out; unfold rnames; rw [h1, HNR.out]; rfl)
     have HO := mk0 (HF5.out).out_
     obtain ⟨⟨e0, e1⟩, ⟨d0, d1⟩, f0, f1, _, _⟩ := (HF5.out).cells
     go_wp2
     refine bodyPost_ret (results_row_tmp2 rfl _ _ W.heap.size 25 #[.slice A1 sy.length c1, .slice none 0 0] (0, 0) _ rfl (HO.out).2.1 Tryz.underlying25 rfl (by kernel_rfl)) rfl ?_
     exact ⟨(HO.out).1, sy, [], [], A1, c1, none, 0, none, 0, 0, false, rfl, (HO.out).2.2, .inr ⟨rfl, HNO.out⟩⟩
    | true =>
     have HAN := mk0 ((HAW.out).step (n := 1) (hp1_len q3))
     have HQ3 := mk0 q3
     have HL1 := mk0 (hp1_len q3)
     have HLK := mk0 (show (m1.drop 1).length + 1 ≤ m.length from by
      have h1 := (HAW.out).len
      have h2 := (HAM.out).len
      have h3 := hp1_len q3
      rw [l9_]
      omega)
     generalize hm2 : m1.drop 1 = m2 at *
     have HNU := mk0 (fun W' => rnum_at s HS.out HAN.out W')
     have HAD := mk0 ((HAN.out).step (n := (rdig m2).length) (rdig_take m2).2.2)
     have HDL := mk0 (rdig_take m2).2.2
     generalize hD : (rdig m2).length = D at *
     generalize hVL : rval (rdig m2) = VL at *
     have hw8 : wrap64 ((p1 : Int) + 7 + (K : Int) + 1) = ((p1 + 7 + K + 1 : Nat) : Int) := by rw [wr_id (by omega) (by have := HB9.out; omega)]; omega
     clear q3 hm2 hD hVL
     go_wp2_with fail
     refine (HNU.out _).mono ?_
     rintro E w6 ⟨rfl, hb⟩
     have HF6 := mk0 ((HF5.out).below hb)
     clear hb HF5 HNU
     cases q4 : rnumOk m2 with
     | false =>
      have HNR := mk0 (show rsymStep m = none from by rw [HR.out, q4]; simp)
      clear q4
      have HNO := mk0 (show rnames l = none from by obtain ⟨n, h1, h2⟩ := HE2.out; unfold rnames; rw [h1, HNR.out]; rfl)
      have HO := mk0 (HF6.out).out_
      obtain ⟨⟨e0, e1⟩, ⟨d0, d1⟩, f0, f1, _, _⟩ := (HF6.out).cells
      go_wp2
      refine bodyPost_ret (results_row_tmp2 rfl _ _ W.heap.size 25 #[.slice A1 sy.length c1, .slice none 0 0] (0, 0) _ rfl (HO.out).2.1 Tryz.underlying25 rfl (by kernel_rfl)) rfl ?_
      exact ⟨(HO.out).1, sy, [], [], A1, c1, none, 0, none, 0, 0, false, rfl, (HO.out).2.2, .inr ⟨rfl, HNO.out⟩⟩
     | true =>
      have HQ4 := mk0 q4
      have H10 := mk0 (fun W' => bg3_calls s (by have := HS.out; omega) (HAD.out).le (HAD.out).eq ⟨#[10]⟩ (by decide) W')
      rw [show (ByteArray.mk #[10]).data.toList = [10] from rfl] at H10
      clear q4
      go_wp2_with fail
      refine (H10.out _).mono ?_
      rintro E w7 ⟨rfl, hb⟩
      have HF7 := mk0 ((HF6.out).below hb)
      clear hb HF6 H10
      cases q5 : Lib.hasPrefix (m2.drop D) [10] with
      | false =>
       have HNR := mk0 (show rsymStep m = none from by rw [HR.out, q5]; simp)
       clear q5
       have HNO := mk0 (show rnames l = none from by obtain ⟨n, h1, h2⟩ := HE2.out; unfold rnames; rw [h1, HNR.out]; rfl)
       have HO := mk0 (HF7.out).out_
       obtain ⟨⟨e0, e1⟩, ⟨d0, d1⟩, f0, f1, _, _⟩ := (HF7.out).cells
       go_wp2
       refine bodyPost_ret (results_row_tmp2 rfl _ _ W.heap.size 25 #[.slice A1 sy.length c1, .slice none 0 0] (0, 0) _ rfl (HO.out).2.1 Tryz.underlying25 rfl (by kernel_rfl)) rfl ?_
       exact ⟨(HO.out).1, sy, [], [], A1, c1, none, 0, none, 0, 0, false, rfl, (HO.out).2.2, .inr ⟨rfl, HNO.out⟩⟩
      | true =>
       have HNR := mk0 (show rsymStep m = some (⟨nm, VL⟩, (m2.drop D).drop 1) from by rw [HR.out, if_pos ⟨HQ2.out, HQ3.out⟩, if_pos ⟨HQ4.out, q5⟩])
       have HAX := mk0 ((HAD.out).step (n := 1) (hp1_len q5))
       have HLX := mk0 (show ((m2.drop D).drop 1).length + 8 ≤ l1.length ∧ p1 + 7 + K + 1 + D + 1 ≤ 70000 from by
        have h1 := HLK.out
        have h2 := HLM.out
        have h3 := (HAX.out).le
        have h4 := HS.out
        rw [l9_, l9_]
        omega)
       have hw9 : wrap64 ((p1 : Int) + 7 + (K : Int) + 1 + (D : Int) + 1) = ((p1 + 7 + K + 1 + D + 1 : Nat) : Int) := by rw [wr_id (by omega) (by have := HLX.out; omega)]; omega
       have HLB := mk0 (show (sy.length + 1) * 24 ≤ 140737488355328 by have := HL.out; have := HLL.out; omega)
       obtain ⟨⟨e0, e1⟩, ⟨d0, d1⟩, f0, f1, g0, g1⟩ := (HF7.out).cells
       clear q5
       go_wp2_with ((with_reducible refine gate_builtin (b := .append) (xs := #[.tmp 58, .tmp 62]) rfl ?_); at_builtin; refine Kd.R_append k71 (w0 := W) W.heap.size rfl (.tmp 58) (.tmp 62) 22 71 (.agg #[.string ⟨#[]⟩, .int .i64 0]) 24 rfl Tryz.underlying22 Q.info71 rfl (show 0 < 2 by decide) (by decide) (.slice A1 sy.length c1) sy (⟨nm, VL⟩ : S71) [.string nm, .int .i64 VL] (fun k => W.heap.size + 1 < k) (fun _ => False) rfl rfl (Q.k71_mkM _ _ _ ⟨nm, VL⟩) (fun _ hk => hk.elim) (fun k hk => l12_ (HF7.out).lt hk) (HF7.out).r1 (HF7.out).hb (HF7.out).hb.size HLB.out ?_; intro v9 w9 ho5 hb5 hg5 hat5; (obtain ⟨A9, c9, rfl⟩ := Kd.R_slice ho5); have HF9 := mk0 ((HF7.out).push1 ho5 hb5 hg5); have hGG := (HF7.out).grown hg5 (fun k hk => (HF7.out).r1.1 k hk); have c6 := hGG.1.1; have f6 := hGG.2.1; clear hGG ho5 hb5 hg5 hat5)
       go_roundg l1.length
       case measure => omega
       case rel => exact ⟨sy ++ [⟨nm, VL⟩], (m2.drop D).drop 1, p1 + 7 + K + 1 + D + 1, A9, c9, by have := (HLX.out).1; omega, by first | rfl | rw [hw9] | (congr 1; omega), ⟨by
        obtain ⟨n, h1, h2⟩ := HE2.out
        have := (HLX.out).1
        exact ⟨n, by rw [h1, HNR.out]; rfl, by omega⟩⟩, ⟨by have := (HLX.out).1; have := HL.out; rw [l7_, l10_]; omega⟩, HAX, HF9⟩
theorem zro_names (its : List RIt) : (its.map zro).map (·.f0) = its.map (·.nm) := by
 rw [List.map_map]; rfl
def rbodsA (a b : List ByteArray) (acc : List S52) (its : List RIt) : Option (List S52) := (rbods a b its).map (acc ++ ·)
theorem rbodsA_start (a b : List ByteArray) (its : List RIt) : rbodsA a b [] its = rbods a b its := by
 unfold rbodsA
 cases rbods a b its <;> simp
theorem rbodsA_end (a b : List ByteArray) (acc : List S52) : rbodsA a b acc [] = some acc := by
 unfold rbodsA rbods
 simp
theorem rbodsA_none {a b : List ByteArray} {acc : List S52} {i : RIt} {r : List RIt} (h : tmRG (rhdR a b) i.body = none) : rbodsA a b acc (i :: r) = none := by
 unfold rbodsA
 rw [rbods, h]
 rfl
theorem rbodsA_bad {a b : List ByteArray} {acc : List S52} {i : RIt} {r : List RIt} {t : S50} {l : List UInt8} (h : tmRG (rhdR a b) i.body = some (t, l)) (h2 : Lib.hasPrefix l [10] = false) : rbodsA a b acc (i :: r) = none := by
 unfold rbodsA
 rw [rbods, h]
 simp only [l23_]
 rw [h2]
 rfl
theorem rbodsA_step {a b : List ByteArray} {acc : List S52} {i : RIt} {r : List RIt} {t : S50} {l : List UInt8} (h : tmRG (rhdR a b) i.body = some (t, l)) (h2 : Lib.hasPrefix l [10] = true) : rbodsA a b acc (i :: r) = rbodsA a b (acc ++ [⟨i.nm, i.s, t⟩]) r := by
 unfold rbodsA
 rw [rbods, h]
 simp only [l23_]
 rw [h2, if_pos rfl]
 cases rbods a b r <;> simp
theorem rgetR_large {t : ByteArray} (h : 65536 < t.size) : rgetR t = (3, [], []) := by
 unfold rgetR
 rw [if_pos h]
theorem rgetR_bad {t : ByteArray} (h : ¬ 65536 < t.size) (h2 : rnames t.data.toList = none) : rgetR t = (4, [], []) := by
 unfold rgetR rgetV
 rw [if_neg h, h2]
 rfl
theorem rgetR_bad2 {t : ByteArray} {sy : List S71} {its : List RIt} (h : ¬ 65536 < t.size) (h2 : rnames t.data.toList = some (sy, its)) (h3 : rbods (sy.map (·.f0)) (its.map (·.nm)) its = none) : rgetR t = (4, [], []) := by
 unfold rgetR rgetV
 rw [if_neg h, h2]
 simp only [l23_]
 rw [h3]
 rfl
theorem rgetR_ok {t : ByteArray} {sy : List S71} {its : List RIt} {F : List S52} (h : ¬ 65536 < t.size) (h2 : rnames t.data.toList = some (sy, its)) (h3 : rbods (sy.map (·.f0)) (its.map (·.nm)) its = some F) : rgetR t = if schB sy F = true then (0, sy, F) else (7, [], []) := by
 unfold rgetR rgetV
 rw [if_neg h, h2]
 simp only [l23_]
 rw [h3]
 rfl
def RgQ (s : ByteArray) (W : World) (E : Ending) (w' : World) : Prop :=
 Below W.heap.size W w' ∧ ∃ (sy : List S71) (fs : List S52) (A1 : Option Addr) (c1 : Nat) (A2 : Option Addr) (c2 : Nat) (e : Int), E = .returned (.tuple #[.agg #[.slice A1 sy.length c1, .slice A2 fs.length c2], .int .i64 e]) ∧ (e, sy, fs) = rgetR s ∧
  Kd.R k71 71 w' W.heap.size (fun k => W.heap.size ≤ k) (.slice A1 sy.length c1) sy ∧ Kd.R k52 52 w' W.heap.size (fun k => W.heap.size ≤ k) (.slice A2 fs.length c2) fs
set_option maxHeartbeats 4000000 in
set_option maxRecDepth 100000 in
theorem schemeGet_of (hG : ∀ (s : ByteArray) (W : World), Calls Tryz.prog 20 #[.string s] W (RgQ s W)) (s : ByteArray) (w : World) (hm : MX w) : Calls Tryz.prog 5 #[.string s] w fun E w' => E = .returned (.bool true) ∧ Below w.heap.size w w' := by
 have HG := mk0 (get3_calls s w hm)
 have HR := mk0 (hG s)
 have HM := mk0 hm
 unfold GetE3 at HG
 unfold RgQ at HR
 rw [← getR3_eq] at HR
 have HNO := mk0 (getR3_none (t := s))
 have HYES := mk0 (fun sy fs (h : getR3 s = (0, sy, fs)) => (getR3_good h).2.2.2)
 generalize getR3 s = R at *
 obtain ⟨e, sy, fs⟩ := R
 clear hm hG
 go_enter Tryz.func5, Tryz.ntmps5
 go_wp2_with fail
 refine (HG.out).mono ?_
 rintro E w1 ⟨A1, c1, A2, c2, rfl, h1, l1, h2, l2, hb⟩
 have hba := aA_ (Below.refl w1.heap.size w1) (.cells #[.slice A1 sy.length c1, .slice A2 fs.length c2] 25)
 have HB2 := mk0 (aL_ hb hb.size hba)
 have HX2 := mk0 (aS_ w1 (.cells #[.slice A1 sy.length c1, .slice A2 fs.length c2] 25))
 have HS2 := mk0 (Kd.C_below h1 hba)
 have HF2 := mk0 (Kd.C_below h2 hba)
 have HL2 := mk0 (⟨l1, l2⟩ : sy.length ≤ c1 ∧ fs.length ≤ c2)
 clear h1 h2 hb hba HG l1 l2
 go_upto_region 2 with (fail)
 generalize w1.alloc (.cells #[.slice A1 sy.length c1, .slice A2 fs.length c2] 25) = w2 at *
 generalize w1.heap.size = b1 at *
 go_wp2_with fail
 refine (HR.out w2).mono ?_
 rintro E w3 ⟨hb, sy3, fs3, B1, d1, B2, d2, e3, rfl, heq, r1, r2⟩
 simp only [Prod.mk.injEq] at heq
 obtain ⟨rfl, rfl, rfl⟩ := heq
 have hba := aA_ (Below.refl w3.heap.size w3) (.cells #[.slice B1 sy3.length d1, .slice B2 fs3.length d2] 25)
 have HB4 := mk0 (aL_ (aL_ HB2.out (HB2.out).size hb) (Nat.le_trans (HB2.out).size hb.size) hba)
 have HX4 := mk0 (aJ_ (aJ_ HX2.out hb) hba)
 have HY4 := mk0 (aS_ w3 (.cells #[.slice B1 sy3.length d1, .slice B2 fs3.length d2] 25))
 have HS4 := mk0 (Kd.C_below (Kd.C_below HS2.out hb) hba)
 have HF4 := mk0 (Kd.C_below (Kd.C_below HF2.out hb) hba)
 have HT4 := mk0 (Kd.C_below (Kd.R_reads' r1).2.2 hba)
 have HU4 := mk0 (Kd.C_below (Kd.R_reads' r2).2.2 hba)
 have HL4 := mk0 (⟨(Kd.R_reads' r1).2.1, (Kd.R_reads' r2).2.1⟩ : sy3.length ≤ d1 ∧ fs3.length ≤ d2)
 clear hb hba r1 r2 HR HB2 HX2 HS2 HF2
 go_upto_region 3 with (fail)
 generalize w3.alloc (.cells #[.slice B1 sy3.length d1, .slice B2 fs3.length d2] 25) = w4 at *
 generalize w3.heap.size = b3 at *
 have k0 : w4.cell? ⟨b1, 0, none⟩ = some (.slice A1 sy3.length c1) := (aC_ HX4.out 0).trans rfl
 have k1 : w4.cell? ⟨b1, 1, none⟩ = some (.slice A2 fs3.length c2) := (aC_ HX4.out 1).trans rfl
 have k2 : w4.cell? ⟨b3, 0, none⟩ = some (.slice B1 sy3.length d1) := (aC_ HY4.out 0).trans rfl
 have k3 : w4.cell? ⟨b3, 1, none⟩ = some (.slice B2 fs3.length d2) := (aC_ HY4.out 1).trans rfl
 have HI := mk0 (is3_calls sy3 fs3 e3 A1 A2 B1 B2 c1 c2 d1 d2 w4 HS4.out HF4.out HT4.out HU4.out (HL2.out).1 (HL2.out).2 (HL4.out).1 (HL4.out).2 (fun h => HYES.out sy3 fs3 (by rw [h])) (fun h => HNO.out h))
 go_wp2_with fail
 refine (HI.out).mono ?_
 rintro E w5 ⟨rfl, hb⟩
 have HB5 := mk0 (aL_ HB4.out (HB4.out).size hb)
 have HAL := mk0 (alive_calls w5 ((HM.out).below HB5.out))
 clear hb k0 k1 k2 k3 HI
 go_wp2_with fail
 refine (HAL.out).mono ?_
 rintro E w6 ⟨rfl, hb⟩
 have HB6 := mk0 (aL_ HB5.out (HB5.out).size hb)
 clear hb
 go_wp2
 go_ret
 exact ⟨rfl, HB6.out⟩
theorem R_formA {α : Type} {d : Kd α} {e base n c : Nat} {ok : Nat → Prop} {w : World} {ad : Addr} {xs : List α} (h : d.R e w base ok (.slice (some ad) n c) xs) : ∃ g, ad = ⟨g, 0, none⟩ := by
 obtain ⟨_, inner, ho, _⟩ := h
 rcases ho.2 with ⟨hv, _⟩ | ⟨g, cap, cur, hv, _⟩
 ·cases hv
 ·injection hv with ha _ _
  injection ha with ha
  exact ⟨g, ha⟩
theorem elem52 {W : World} {base n cap : Nat} {ok : Nat → Prop} {ad : Addr} {xs : List S52} (h : Kd.R k52 52 W base ok (.slice (some ad) n cap) xs) {j : Nat} (hj : j < n) : ∃ (A1 : Option Addr) (c1 : Nat) (A4 : Option Addr) (c4 : Nat),
  W.cell? (ad.add (j * 5)) = some (.string (xs.getD j z52).f0) ∧ W.cell? ⟨(ad.add (j * 5)).block, (ad.add (j * 5)).off + 1, none⟩ = some (.slice A1 (xs.getD j z52).f1.f0.length c1) ∧ W.cell? ⟨(ad.add (j * 5)).block, (ad.add (j * 5)).off + 2, none⟩ = some (.int .i64 (xs.getD j z52).f2.f0) ∧ W.cell? ⟨(ad.add (j * 5)).block, (ad.add (j * 5)).off + 3, none⟩ = some (.int .i64 (xs.getD j z52).f2.f1) ∧ W.cell? ⟨(ad.add (j * 5)).block, (ad.add (j * 5)).off + 4, none⟩ = some (.slice A4 (xs.getD j z52).f2.f2.length c4) ∧
  Kd.R k47 47 W base ok (.slice A1 (xs.getD j z52).f1.f0.length c1) (xs.getD j z52).f1.f0 := by
 obtain ⟨g, rfl⟩ := R_formA h
 obtain ⟨c, hcl, hM, hcc, hf⟩ := Kd.R_elem h z52 (j : Int) (by omega) (by omega)
 rw [l14_] at hM hcc
 obtain ⟨v1, v4, rfl, g1, g4⟩ := Q.k52_openM hM
 obtain ⟨A1, c1, rfl⟩ := Kd.R_slice g1
 obtain ⟨A4, c4, rfl⟩ := Kd.R_slice g4
 have e : Addr.add ⟨g, 0, none⟩ (j * 5) = ⟨g, j * 5, none⟩ := by simp [Addr.add]; intro h; exact h.symm
 refine ⟨A1, c1, A4, c4, ?_, ?_, ?_, ?_, ?_, Kd.R_mono g1 (fun k hk => hk.1)⟩
 ·rw [e]; exact hcc 0 _ rfl
 ·rw [e]; exact hcc 1 _ rfl
 ·rw [e]; exact hcc 2 _ rfl
 ·rw [e]; exact hcc 3 _ rfl
 ·rw [e]; exact hcc 4 _ rfl
theorem rsymStep_len {l : List UInt8} {y : S71} {r : List UInt8} (h : rsymStep l = some (y, r)) : r.length + 1 ≤ l.length := by
 have := congrArg List.length (rsymStep_sound h).2
 simp only [l7_, l8_] at this
 omega
theorem rnSyms_len (n : Nat) : ∀ (acc : List S71) (l : List UInt8) (sy : List S71) (r : List UInt8), rnSyms n acc l = some (sy, r) → sy.length + r.length ≤ acc.length + l.length := by
 induction n with
 | zero => intro acc l sy r h; simp [rnSyms] at h
 | succ n ih =>
  intro acc l sy r h
  rw [rnSyms] at h
  split at h
  ·obtain ⟨⟨y, r1⟩, h1, h⟩ := Option.bind_eq_some_iff.1 h
   have h2 := ih _ _ _ _ h
   have h3 := rsymStep_len h1
   rw [l7_, l10_] at h2
   rw [l9_] at h3
   simp only at h2
   omega
  ·cases h
   omega
theorem rfunStep_len {l : List UInt8} {p : RIt} {r : List UInt8} (h : rfunStep l = some (p, r)) : r.length + 1 ≤ l.length := by
 obtain ⟨i, _, _, _, e⟩ := rfunStep_sound h
 have := congrArg List.length e
 simp only [l7_, l8_] at this
 omega
theorem rnFuns_len (n : Nat) : ∀ (acc : List RIt) (l : List UInt8) (q : List RIt) (r : List UInt8), rnFuns n acc l = some (q, r) → q.length + r.length ≤ acc.length + l.length := by
 induction n with
 | zero => intro acc l q r h; simp [rnFuns] at h
 | succ n ih =>
  intro acc l q r h
  rw [rnFuns] at h
  split at h
  ·obtain ⟨⟨y, r1⟩, h1, h⟩ := Option.bind_eq_some_iff.1 h
   have h2 := ih _ _ _ _ h
   have h3 := rfunStep_len h1
   rw [l7_, l10_] at h2
   rw [l9_] at h3
   simp only at h2
   omega
  ·cases h
   omega
theorem rnames_len {l : List UInt8} {sy : List S71} {its : List RIt} (h : rnames l = some (sy, its)) : sy.length + its.length ≤ l.length := by
 unfold rnames at h
 obtain ⟨⟨y, r1⟩, h1, h⟩ := Option.bind_eq_some_iff.1 h
 obtain ⟨⟨q, r2⟩, h2, h⟩ := Option.bind_eq_some_iff.1 h
 have k1 := rnSyms_len _ _ _ _ _ h1
 have k2 := rnFuns_len _ _ _ _ _ h2
 split at h
 ·cases h
  dsimp only at k1 k2 ⊢
  rw [List.length_nil] at k1 k2
  omega
 ·cases h
abbrev GJs := S50 × Option Addr × Nat × Int × Bool × Nat
def GJ (w9 : World) (s : ByteArray) (hd : HD) (l : List UInt8) (x : GJs) (W : World) : Prop :=
 Below w9.heap.size w9 W ∧ W.heap[x.2.2.2.2.2]? = some (.cells #[.int .i64 0, .int .i64 0, .slice none 0 0] 50 (0, 0)) ∧ w9.heap.size ≤ x.2.2.2.2.2 ∧
  Kd.R k50 50 W w9.heap.size (fun k => w9.heap.size ≤ k ∧ k ≠ x.2.2.2.2.2) (.slice x.2.1 x.1.f2.length x.2.2.1) x.1.f2 ∧
  ((x.2.2.2.2.1 = true ∧ ∃ (r : List UInt8) (p : Nat), tmRG hd l = some (x.1, r) ∧ x.2.2.2.1 = (p : Int) ∧ At s p r) ∨ (x.2.2.2.2.1 = false ∧ tmRG hd l = none))
def tabT20 : Bool × List (List Nat × List Nat) := (true, [([], []), ([], []), ([], []), ([], []), ([2, 3], [2, 3]), ([4], [4]), ([0, 1, 5], [0, 1, 5]), ([6], [6]), ([7], [7]),
  ([7], [7]), ([7], [7]), ([], []), ([11, 8, 6, 0, 1, 2, 3, 4, 5, 6, 7, 8, 11], [8, 11]),
  ([9, 12, 0, 1, 2, 3, 4, 5, 6, 7, 8, 9, 11, 12], [9]),
  ([10, 13, 0, 1, 2, 3, 4, 5, 6, 7, 8, 9, 10, 11, 12, 13], [10])])
theorem tab20 : rtab .any (opsOf Tryz.f20 10) = tabT20 := by kernel_rfl
theorem bits20 : waitsOk tabT20.2 [0, 0, 0, 0, 12, 28, 63, 127, 255, 255, 255, 0, 2559, 7167, 16383] = true := by kernel_rfl
theorem GJ.store {w9 W : World} {b : Nat} {v0 v1 v2 : Value} {t : S50} {A : Option Addr} {c : Nat} (hb : Below w9.heap.size w9 W) (hx : W.heap[b]? = some (.cells #[.int .i64 0, .int .i64 0, .slice none 0 0] 50 (0, 0))) (hle : w9.heap.size ≤ b) (hR : Kd.R k50 50 W w9.heap.size (fun k => w9.heap.size ≤ k ∧ k ≠ b) (.slice A t.f2.length c) t.f2) :
  Below w9.heap.size w9 (((W.setCell ⟨b, 0, none⟩ v0).setCell ⟨b, 1, none⟩ v1).setCell ⟨b, 2, none⟩ v2) ∧ (((W.setCell ⟨b, 0, none⟩ v0).setCell ⟨b, 1, none⟩ v1).setCell ⟨b, 2, none⟩ v2).heap[b]? = some (.cells #[v0, v1, v2] 50 (0, 0)) ∧
  Kd.R k50 50 (((W.setCell ⟨b, 0, none⟩ v0).setCell ⟨b, 1, none⟩ v1).setCell ⟨b, 2, none⟩ v2) w9.heap.size (fun k => w9.heap.size ≤ k ∧ k ≠ b) (.slice A t.f2.length c) t.f2 :=
 ⟨((hb.setCell (p := ⟨b, 0, none⟩) hle _).setCell (p := ⟨b, 1, none⟩) hle _).setCell (p := ⟨b, 2, none⟩) hle _, blk_set (blk_set (blk_set hx 0 _) 1 _) 2 _,
  Kd.R_far (p := ⟨b, 2, none⟩) (Kd.R_far (p := ⟨b, 1, none⟩) (Kd.R_far (p := ⟨b, 0, none⟩) hR (fun k hk => hk.2) _) (fun k hk => hk.2) _) (fun k hk => hk.2) _⟩
end Go.Proofs.YthflpbgloeimfaaGreatDoor.H
