/- Maps that a call makes, as lists of entries: what a look-up answers and what a store leaves. -/
import Derived.Test.YtmphigeefppfpaaWWords
import Derived.Test.YtmphigeefppfpaaWKept
import Derived.Maps.OwnSet
import Derived.DeepKeys4
namespace Go.Proofs.YtmphigeefppfpaaW.PrintWords
open Go.RowKit Go.Maps Go.ChangeMaps

/-- What is needed of the key's type: how a key stands as a value. -/
structure KeyB {κ : Type} (P : Program) (k : TypeId) (enc : κ → Value) (dom : κ → Prop) : Prop where
  K : Keyed P k
  lit : ∀ x, dom x → ∃ l, keyOf P k (enc x) = some l
  inj : ∀ x y, enc x = enc y → x = y

def entsOf {κ ν : Type} (enc : κ → Value) (encV : ν → Value) (es : List (κ × ν)) : List (Value × Value) := es.map fun p => (enc p.1, encV p.2)
/-- Block B is a map with just these entries. -/
def MapIs {κ ν : Type} (w : World) (B : Nat) (enc : κ → Value) (encV : ν → Value) (dom : κ → Prop) (es : List (κ × ν)) : Prop :=
  (∃ ms ck, w.heap[B]? = some (.map ms ck) ∧ ms.toList.map (fun e => (e.key, e.val)) = entsOf enc encV es) ∧ (es.map (·.1)).Nodup ∧ ∀ p ∈ es, dom p.1

section
variable {κ ν : Type} {P : Program} {w w1 : World} {B : Nat} {enc : κ → Value} {encV : ν → Value} {dom : κ → Prop} {es : List (κ × ν)} {k t e : TypeId}

theorem mapIs_new (w : World) (enc : κ → Value) (encV : ν → Value) (dom : κ → Prop) : MapIs (w.alloc (.map #[] 0)) w.heap.size enc encV dom [] :=
  ⟨⟨#[], 0, heap_alloc_new w _, rfl⟩, List.nodup_nil, by simp⟩
theorem MapIs.kept (h : MapIs w B enc encV dom es) (hb : w1.heap[B]? = w.heap[B]?) : MapIs w1 B enc encV dom es := by
  obtain ⟨⟨ms, ck, h1, h2⟩, h3⟩ := h
  exact ⟨⟨ms, ck, hb.trans h1, h2⟩, h3⟩
theorem MapIs.lt (h : MapIs w B enc encV dom es) : B < w.heap.size := by
  obtain ⟨⟨ms, ck, h1, _⟩, _⟩ := h
  exact (Array.getElem?_eq_some_iff.1 h1).1
theorem MapIs.below (h : MapIs w B enc encV dom es) (hb : Below w.heap.size w w1) : MapIs w1 B enc encV dom es := h.kept (hb.block B h.lt)
theorem MapIs.grown (h : MapIs w B enc encV dom es) {row : Option Nat} (hg : w.grownBy w1 row) (hne : some B ≠ row) : MapIs w1 B enc encV dom es := h.kept (hg.block B h.lt hne)
theorem MapIs.far (h : MapIs w B enc encV dom es) {p : Addr} (hp : B ≠ p.block) (u : Value) : MapIs (w.setCell p u) B enc encV dom es := h.kept (Below.heap_setCell w p u B hp)
/-- A map's block is no row of cells. -/
theorem MapIs.ne_row (h : MapIs w B enc encV dom es) {g : Nat} {cs : Array Value} {q : TypeId} {fr : Nat × Nat} (hg : w.heap[g]? = some (.cells cs q fr)) : g ≠ B := by
  rintro rfl
  obtain ⟨⟨ms, ck, h1, _⟩, _⟩ := h
  rw [hg] at h1
  cases h1
theorem MapIs.len (h : MapIs w B enc encV dom es) (ht : P.underlying t = some (.map k e)) (ty : TypeId) : (Builtin.len_ #[t] ty #[.map (some B)]).run P w = .ok (.int .i64 es.length) w := by
  obtain ⟨⟨ms, ck, hb, hms⟩, _⟩ := h
  have hlen : ms.size = es.length := by have := congrArg List.length hms; simpa [entsOf] using this
  simp [Builtin.len_, run_underlying ht, MapKept.run_getObj_map hb, hlen, goInt]
end

section
variable {κ ν : Type} [DecidableEq κ] {P : Program} {w w1 : World} {B : Nat} {enc : κ → Value} {encV : ν → Value} {dom : κ → Prop} {es : List (κ × ν)} {k t e : TypeId}
/-- The element at a key. -/
def mget (x : κ) (es : List (κ × ν)) : Option ν := (es.find? fun p => p.1 = x).map (·.2)
/-- A store. -/
def mput (x : κ) (v : ν) : List (κ × ν) → List (κ × ν)
  | [] => [(x, v)]
  | (y, u) :: r => if y = x then (x, v) :: r else (y, u) :: mput x v r
theorem mput_new {x : κ} {v : ν} {es : List (κ × ν)} (h : x ∉ es.map (·.1)) : mput x v es = es ++ [(x, v)] := by
  induction es with
  | nil => rfl
  | cons p r ih =>
    obtain ⟨y, u⟩ := p
    simp only [List.map_cons, List.mem_cons, not_or] at h
    simp only [mput, if_neg (Ne.symm h.1), ih h.2, List.cons_append]
theorem mput_keys {x : κ} {v : ν} (es : List (κ × ν)) : (mput x v es).map (·.1) = if x ∈ es.map (·.1) then es.map (·.1) else es.map (·.1) ++ [x] := by
  induction es with
  | nil => simp [mput]
  | cons p r ih =>
    obtain ⟨y, u⟩ := p
    by_cases h : y = x
    · subst h; simp [mput]
    · simp only [mput, if_neg h, List.map_cons, ih, List.mem_cons, Ne.symm h, false_or]
      split <;> simp
theorem mget_mput {x y : κ} {v : ν} (es : List (κ × ν)) : mget y (mput x v es) = if y = x then some v else mget y es := by
  induction es with
  | nil =>
    by_cases h : y = x
    · subst h; simp [mput, mget]
    · simp [mput, mget, h, Ne.symm h]
  | cons p r ih =>
    obtain ⟨z, u⟩ := p
    by_cases h : z = x
    · subst h
      by_cases h2 : y = z
      · subst h2; simp [mput, mget]
      · simp [mput, mget, h2, Ne.symm h2]
    · by_cases h2 : z = y
      · subst h2
        simp [mput, mget, h]
      · have ih' : mget y (mput x v r) = if y = x then some v else mget y r := ih
        simp only [mget] at ih'
        simp only [mput, if_neg h, mget, List.find?_cons, decide_eq_false h2]
        exact ih'
theorem mget_none {x : κ} {es : List (κ × ν)} : mget x es = none ↔ x ∉ es.map (·.1) := by
  simp only [mget, Option.map_eq_none_iff, List.find?_eq_none, List.mem_map, not_exists, not_and, decide_eq_true_eq]

theorem find_keys (H : KeyB P k enc dom) {ms : List MapEntry} (hms : ms.map (fun e => (e.key, e.val)) = entsOf enc encV es) (hd : ∀ p ∈ es, dom p.1) {x : κ} (hx : dom x) (w : World) (hnd : (es.map (·.1)).Nodup) :
    (mget x es = none ∧ (Instr.findKey k (enc x) ms).run P w = .ok none w) ∨ ∃ v j, mget x es = some v ∧ es[j]? = some (x, v) ∧ (Instr.findKey k (enc x) ms).run P w = .ok (some (j, encV v)) w := by
  have hlen : ms.length = es.length := by have := congrArg List.length hms; simpa [entsOf] using this
  have hat : ∀ (j : Nat) (e : MapEntry), ms[j]? = some e → ∃ p : κ × ν, es[j]? = some p ∧ e.key = enc p.1 ∧ e.val = encV p.2 := by
    intro j e he
    have h1 : (ms.map (fun e => (e.key, e.val)))[j]? = some (e.key, e.val) := by rw [List.getElem?_map, he]; rfl
    rw [hms] at h1
    simp only [entsOf, List.getElem?_map, Option.map_eq_some_iff, Prod.mk.injEq] at h1
    obtain ⟨p, hp, h2, h3⟩ := h1
    exact ⟨p, hp, h2.symm, h3.symm⟩
  obtain ⟨l, hl⟩ := H.lit x hx
  rcases H.K.find w hl ms (fun e he => by
    obtain ⟨j, hj, rfl⟩ := List.getElem_of_mem he
    obtain ⟨p, hp, h2, _⟩ := hat j _ (List.getElem?_eq_getElem hj)
    rw [h2]
    exact H.lit _ (hd p (List.mem_of_getElem? hp))) with ⟨h1, h2⟩ | ⟨j, e0, h1, h2, h3⟩
  · refine .inl ⟨mget_none.2 fun hm => ?_, h1⟩
    obtain ⟨p, hp, rfl⟩ := List.mem_map.1 hm
    obtain ⟨j, hj, hpj⟩ := List.getElem_of_mem hp
    have hj' : j < ms.length := by omega
    obtain ⟨q, hq, h4, _⟩ := hat j _ (List.getElem?_eq_getElem hj')
    rw [List.getElem?_eq_getElem hj, Option.some.injEq, hpj] at hq
    subst hq
    exact h2 _ (List.getElem_mem hj') h4
  · obtain ⟨p, hp, h4, h5⟩ := hat j e0 h2
    have hpx : p.1 = x := H.inj _ _ (h4.symm.trans h3)
    obtain ⟨y, v⟩ := p
    simp only at hpx
    subst hpx
    refine .inr ⟨v, j, ?_, hp, by rw [h1, h5]⟩
    have hfind : ∀ (es : List (κ × ν)) (j : Nat), (es.map (·.1)).Nodup → es[j]? = some (y, v) → mget y es = some v := by
      intro es
      induction es with
      | nil => intro j _ h; simp at h
      | cons q r ih =>
        intro j hn hj
        cases j with
        | zero =>
          obtain rfl : q = (y, v) := by simpa using hj
          simp [mget]
        | succ j =>
          have hj' : r[j]? = some (y, v) := by simpa using hj
          simp only [List.map_cons, List.nodup_cons] at hn
          have hne : q.1 ≠ y := fun e => hn.1 (e ▸ List.mem_map.2 ⟨(y, v), List.mem_of_getElem? hj', rfl⟩)
          have h6 := ih j hn.2 hj'
          simp only [mget] at h6 ⊢
          rw [List.find?_cons, decide_eq_false hne]
          exact h6
    exact hfind es j hnd hp

/-- 'v, ok := m[k]'. -/
theorem MapIs.look (h : MapIs w B enc encV dom es) (H : KeyB P k enc dom) (ht : P.underlying t = some (.map k e)) {z : Value} (hz : (zeroValue e).run P w = .ok z w) {x : κ} (hx : dom x) (c : Bool) :
    (Instr.lookup t (.map (some B)) (enc x) c).run P w = .ok (match mget x es with | some v => if c then .tuple #[encV v, .bool true] else encV v | none => if c then .tuple #[z, .bool false] else z) w := by
  obtain ⟨⟨ms, ck, hb, hms⟩, hnd, hd⟩ := h
  obtain ⟨l, hl⟩ := H.lit x hx
  rcases find_keys H hms hd hx w hnd with ⟨h1, h2⟩ | ⟨v, j, h1, _, h2⟩
  · rw [h1]
    simp [Instr.lookup, run_underlying ht, MapKept.run_getObj_map hb, H.K.check w _ hl, h2, hz, Result.andThen]
  · rw [h1]
    simp [Instr.lookup, run_underlying ht, MapKept.run_getObj_map hb, H.K.check w _ hl, h2, Result.andThen]

theorem ents_mput (H : KeyB P k enc dom) (x : κ) (v : ν) : ∀ (es : List (κ × ν)) (j : Nat) (u : ν), es[j]? = some (x, u) → (es.map (·.1)).Nodup → entsOf enc encV (mput x v es) = (entsOf enc encV es).set j (enc x, encV v)
  | [], j, u, h, _ => by simp at h
  | (y, z) :: r, 0, u, h, hn => by
    have h' : y = x ∧ z = u := by simpa using h
    obtain ⟨rfl, rfl⟩ := h'
    simp [mput, entsOf]
  | (y, z) :: r, j + 1, u, h, hn => by
    have hj' : r[j]? = some (x, u) := by simpa using h
    simp only [List.map_cons, List.nodup_cons] at hn
    have hne : ¬ y = x := fun e => hn.1 (e ▸ List.mem_map.2 ⟨(x, u), List.mem_of_getElem? hj', rfl⟩)
    have ih := ents_mput H x v r j u hj' hn.2
    simp only [mput, if_neg hne, entsOf, List.map_cons, List.set_cons_succ]
    exact congrArg _ ih

/-- 'm[k] = v'. -/
theorem MapIs.put (h : MapIs w B enc encV dom es) (H : KeyB P k enc dom) (ht : P.underlying t = some (.map k e)) {x : κ} (hx : dom x) (v : ν) :
    ∃ w', (Instr.mapUpdate t (.map (some B)) (enc x) (encV v)).run P w = .ok () w' ∧ MapIs w' B enc encV dom (mput x v es) ∧ w.grownBy w' (some B) := by
  have hlt := h.lt
  obtain ⟨⟨ms, ck, hb, hms⟩, hnd, hd⟩ := h
  obtain ⟨l, hl⟩ := H.lit x hx
  have hkeys : ((mput x v es).map (·.1)).Nodup := by
    rw [mput_keys]
    split
    · exact hnd
    · rename_i hx'
      refine List.nodup_append.2 ⟨hnd, by simp, fun a ha b hb' => ?_⟩
      obtain rfl : b = x := by simpa using hb'
      exact fun e => hx' (e ▸ ha)
  have hdoms : ∀ p ∈ mput x v es, dom p.1 := by
    intro p hp
    have h1 : p.1 ∈ (mput x v es).map (·.1) := List.mem_map.2 ⟨p, hp, rfl⟩
    rw [mput_keys] at h1
    have h2 : p.1 ∈ es.map (·.1) ∨ p.1 = x := by
      split at h1
      · exact .inl h1
      · rcases List.mem_append.1 h1 with h1 | h1
        · exact .inl h1
        · exact .inr (by simpa using h1)
    rcases h2 with h2 | h2
    · obtain ⟨q, hq, e1⟩ := List.mem_map.1 h2
      rw [← e1]; exact hd q hq
    · rw [h2]; exact hx
  have hturn : ∀ o : Obj, w.grownBy (setBlock w B o) (some B) := fun o => ⟨rfl, rfl, rfl, by simp [setBlock], fun i hi hne => by
    have hne' : B ≠ i := fun e => hne (by rw [e])
    simp [setBlock, hne']⟩
  rcases find_keys H hms hd hx w hnd with ⟨h1, h2⟩ | ⟨u, j, h1, h3, h2⟩
  · refine ⟨setBlock w B (.map (ms.push ⟨enc x, encV v, ck⟩) (ck + 1)), ?_, ⟨⟨ms.push ⟨enc x, encV v, ck⟩, ck + 1, by simp [setBlock, hlt], ?_⟩, hkeys, hdoms⟩, hturn _⟩
    · simp [Instr.mapUpdate, run_underlying ht, MapKept.run_getObj_map hb, H.K.check w false hl, h2, MapKept.run_setObj_map _ hb, Result.andThen, setBlock]
    · rw [mput_new (mget_none.1 h1), Array.toList_push, List.map_append, hms]
      simp [entsOf]
  · have hj : j < ms.size := by
      have h4 : (entsOf enc encV es)[j]? = some (enc x, encV u) := by rw [entsOf, List.getElem?_map, h3]; rfl
      rw [← hms] at h4
      have := (List.getElem?_eq_some_iff.1 h4).1
      simpa using this
    have hkey : (ms[j]'hj).key = enc x := by
      have h4 : (entsOf enc encV es)[j]? = some (enc x, encV u) := by rw [entsOf, List.getElem?_map, h3]; rfl
      rw [← hms, List.getElem?_map, List.getElem?_eq_getElem (by simpa using hj)] at h4
      simpa using congrArg Prod.fst (Option.some.inj h4)
    refine ⟨setBlock w B (.map (ms.modify j fun e => { e with key := enc x, val := encV v }) ck), ?_, ⟨⟨ms.modify j fun e => { e with key := enc x, val := encV v }, ck, by simp [setBlock, hlt], ?_⟩, hkeys, hdoms⟩, hturn _⟩
    · simp [Instr.mapUpdate, run_underlying ht, MapKept.run_getObj_map hb, H.K.check w false hl, h2, MapKept.run_setObj_map _ hb, Result.andThen, setBlock, hj, hkey, H.K.stays w hl]
    · rw [ents_mput H x v es j u h3 hnd, ← hms]
      apply List.ext_getElem?
      intro i
      by_cases hij : i = j
      · subst hij
        simp [hj]
      · simp only [List.getElem?_map, Array.getElem?_toList, List.getElem?_set, Ne.symm hij, if_false]
        rw [Array.getElem?_modify]
        simp [Ne.symm hij]
end
end Go.Proofs.YtmphigeefppfpaaW.PrintWords
