/- What schemeGet_calls, handed_and_shaped, own, laidOut, laid7, mx_of_shaped, arg_scheme needs, out of my texts, by a program (slim.py). -/
import Derived.Test.YthflpbgloeimfaaGreatDoorSG5
namespace Go.Proofs.YthflpbgloeimfaaGreatDoor.H
open Go.RowKit Go.Proofs.YthflpbgloeimfaaGreatDoorW.PrintWords Go.Proofs.YthflpbgloeimfaaGreatDoorW.PrintLast Go.Proofs.YthflpbgloeimfaaGreatDoorW.PrintMore
open Go.Proofs.YthflpbgloeimfaaGreatDoor.Q (S47 k47 rd_T47 z47 at_T47 S50 k50 rd_T50 z50 at_T50 S52 k52 rd_T52 at_T52 z52 S71 k71 rd_T71 at_T71)
open Go.ChangeShapes Go.WideShapes Go.ChangeAt Go.RowKit Go.Deep Go.Proofs.YthflpbgloeimfaaGreatDoorW.PrintWords Go.Proofs.YthflpbgloeimfaaGreatDoorW.PrintLast Go.Proofs.YthflpbgloeimfaaGreatDoorW.PrintMore
set_option maxRecDepth 100000
set_option linter.unusedVariables false
set_option linter.unusedSimpArgs false
theorem rgQ_zero {s : ByteArray} {W W1 : World} {e : Int} (h : rgetR s = (e, [], [])) (hb : Below W.heap.size W W1) : RgQ s W (.returned (.tuple #[.agg #[.slice none 0 0, .slice none 0 0], .int .i64 e])) W1 :=
 ⟨hb, [], [], none, 0, none, 0, e, rfl, h.symm, Kd.R_nil _ _ _ _ _, Kd.R_nil _ _ _ _ _⟩
structure FK (W w2 wi : World) (sy : List S71) (fs : List S52) (A1 : Option Addr) (c1 : Nat) (A2 : Option Addr) (c2 : Nat) (acc : List S52) (A4 : Option Addr) (c4 : Nat) : Prop where
 hb : Below w2.heap.size w2 wi
 h1 : wi.heap[W.heap.size]? = some (.cells #[.slice none 0 0, .slice none 0 0] 25 (0, 0))
 h2 : wi.heap[w2.heap.size]? = some (.cells #[.slice A1 sy.length c1, .slice A2 fs.length c2] 25 (0, 0))
 r4 : Kd.R k52 52 wi W.heap.size (fun k => W.heap.size < k ∧ k ≠ w2.heap.size) (.slice A4 acc.length c4) acc
 ow : ∀ k, (Value.slice A4 acc.length c4).ownBlock = some k → w2.heap.size < k
section
variable {W w2 w3 w4 : World} {sy : List S71} {fs : List S52} {A1 : Option Addr} {c1 : Nat} {A2 : Option Addr} {c2 : Nat} {acc : List S52} {A4 : Option Addr} {c4 : Nat}
theorem FK.below (h : FK W w2 w3 sy fs A1 c1 A2 c2 acc A4 c4) (hb : Below w3.heap.size w3 w4) : FK W w2 w4 sy fs A1 c1 A2 c2 acc A4 c4 :=
 ⟨aL_ h.hb h.hb.size hb, aJ_ h.h1 hb, aJ_ h.h2 hb, Kd.R_below h.r4 hb, h.ow⟩
theorem FK.cells (h : FK W w2 w3 sy fs A1 c1 A2 c2 acc A4 c4) : (w3.cell? ⟨W.heap.size, 0, none⟩ = some (.slice none 0 0) ∧ w3.cell? ⟨W.heap.size, 1, none⟩ = some (.slice none 0 0)) ∧ (w3.cell? ⟨w2.heap.size, 0, none⟩ = some (.slice A1 sy.length c1) ∧ w3.cell? ⟨w2.heap.size, 1, none⟩ = some (.slice A2 fs.length c2)) ∧ w3.frozen? ⟨W.heap.size, 0, none⟩ = false ∧ w3.frozen? ⟨W.heap.size, 1, none⟩ = false ∧ w3.frozen? ⟨w2.heap.size, 1, none⟩ = false :=
 ⟨⟨(aC_ h.h1 0).trans rfl, (aC_ h.h1 1).trans rfl⟩, ⟨(aC_ h.h2 0).trans rfl, (aC_ h.h2 1).trans rfl⟩, aF_ h.h1 0, aF_ h.h1 1, aF_ h.h2 1⟩
theorem FK.push {y : S52} {A : Option Addr} {c : Nat} (h : FK W w2 w3 sy fs A1 c1 A2 c2 acc A4 c4) (hlt : W.heap.size < w2.heap.size) (ho : Kd.R k52 52 w4 W.heap.size (fun k => W.heap.size < k ∧ k ≠ w2.heap.size) (.slice A (acc ++ [y]).length c) (acc ++ [y])) (hb : Below w2.heap.size w2 w4) (hg : w3.grownBy w4 (Value.slice A4 acc.length c4).ownBlock) (hat : (Value.slice A (acc ++ [y]).length c).ownBlock = (Value.slice A4 acc.length c4).ownBlock ∨ ∃ b, (Value.slice A (acc ++ [y]).length c).ownBlock = some b ∧ w3.heap.size ≤ b) :
  FK W w2 w4 sy fs A1 c1 A2 c2 (acc ++ [y]) A c := by
 have hr := h.ow
 have hs := blk_lt h.h2
 refine ⟨hb, aU_ h.h1 hg (fun e => by have := hr _ e.symm; omega), aU_ h.h2 hg (fun e => by have := hr _ e.symm; omega), ho, fun k hk => ?_⟩
 rcases hat with e | ⟨b, e, hb2⟩
 ·exact hr k (e ▸ hk)
 ·rw [e] at hk
  cases hk
  omega
end
set_option maxHeartbeats 8000000 in
set_option maxRecDepth 100000 in
theorem rget_calls (s : ByteArray) (W : World) : Calls Tryz.prog 20 #[.string s] W (RgQ s W) := by
 have HB1 := mk0 (aA_ (Below.refl W.heap.size W) (.cells #[.slice none 0 0, .slice none 0 0] 25))
 have HX1 := mk0 (aS_ W (.cells #[.slice none 0 0, .slice none 0 0] 25))
 go_enter Tryz.func20, Tryz.ntmps20
 go_upto_region 1 with (fail)
 generalize (W.alloc (.cells #[.slice none 0 0, .slice none 0 0] 25)) = W1 at *
 have e0 : W1.cell? ⟨W.heap.size, 0, none⟩ = some (.slice none 0 0) := (aC_ HX1.out 0).trans rfl
 have e1 : W1.cell? ⟨W.heap.size, 1, none⟩ = some (.slice none 0 0) := (aC_ HX1.out 1).trans rfl
 have f0 := aF_ HX1.out 0
 have f1 := aF_ HX1.out 1
 by_cases hz : (s.size : Int) > 65536
 ·have HR := mk0 (rgetR_large (t := s) (by omega))
  have HBO := mk0 (((HB1.out).setCell (p := ⟨W.heap.size, 0, none⟩) (Nat.le_refl _) (.slice none 0 0)).setCell (p := ⟨W.heap.size, 1, none⟩) (Nat.le_refl _) (.slice none 0 0))
  have HXO := mk0 (blk_set (blk_set HX1.out 0 (.slice none 0 0)) 1 (.slice none 0 0))
  go_wp2
  refine bodyPost_ret (aN_ rfl _ _ W.heap.size 25 #[.slice none 0 0, .slice none 0 0] (0, 0) _ rfl HXO.out Tryz.underlying25 rfl (by kernel_rfl)) rfl ?_
  exact rgQ_zero HR.out HBO.out
 ·have HZ := mk0 (show ¬ 65536 < s.size by omega)
  have HN := mk0 (rnames_calls s (by omega) W1)
  unfold NmQ at HN
  clear e0 e1 f0 f1
  go_wp2_with fail
  refine (HN.out).mono ?_
  rintro E w2 ⟨hb, sy, fs, bo, A1, c1, A2, c2, A3, c3, n3, ok, rfl, hF, hv⟩
  have HSZ1 := mk0 (show W.heap.size < W1.heap.size from blk_lt HX1.out)
  have HSZ := mk0 (show W.heap.size < w2.heap.size from l12_ (blk_lt HX1.out) hb.size)
  have ba := aA_ (Below.refl w2.heap.size w2) (.cells #[.slice A1 sy.length c1, .slice A2 fs.length c2] 25)
  have HB2 := mk0 (aL_ HB1.out (HB1.out).size hb)
  have HFK := mk0 (show FK W w2 (w2.alloc (.cells #[.slice A1 sy.length c1, .slice A2 fs.length c2] 25)) sy fs A1 c1 A2 c2 [] none 0 from ⟨ba, aJ_ (aJ_ HX1.out hb) ba, aS_ w2 _, Kd.R_nil _ _ _ _ _, fun k hk => by cases hk⟩)
  have HROW := mk0 hF
  have HV := mk0 hv
  clear hb hF hv ba HN HX1 HB1
  go_upto_region 4 with (fail)
  generalize (w2.alloc (.cells #[.slice A1 sy.length c1, .slice A2 fs.length c2] 25)) = w3 at *
  cases ok with
  | false =>
   have HR := mk0 (rgetR_bad HZ.out (show rnames s.data.toList = none from by
    rcases HV.out with ⟨h, _⟩ | ⟨_, h⟩
    ·cases h
    ·exact h))
   have HBO := mk0 (((aL_ HB2.out (HB2.out).size (HFK.out).hb).setCell (p := ⟨W.heap.size, 0, none⟩) (Nat.le_refl _) (.slice none 0 0)).setCell (p := ⟨W.heap.size, 1, none⟩) (Nat.le_refl _) (.slice none 0 0))
   have HXO := mk0 (blk_set (blk_set (HFK.out).h1 0 (.slice none 0 0)) 1 (.slice none 0 0))
   obtain ⟨⟨e0, e1⟩, _, f0, f1, _⟩ := (HFK.out).cells
   go_wp2
   refine bodyPost_ret (aN_ rfl _ _ W.heap.size 25 #[.slice none 0 0, .slice none 0 0] (0, 0) _ rfl HXO.out Tryz.underlying25 rfl (by kernel_rfl)) rfl ?_
   exact rgQ_zero HR.out HBO.out
  | true =>
   obtain ⟨its, ps, rfl, hrn, hfs, hbo, hBO⟩ := ((HV.out).resolve_right (fun h => Bool.noConfusion h.1)).2
   have HRN := mk0 hrn
   have HFS := mk0 hfs
   have HBS := mk0 hbo
   have HBK := mk0 hBO
   have HSL := mk0 (show fs.length = its.length ∧ bo.length = its.length from ⟨by rw [hfs, List.length_map], by rw [hbo, List.length_map]; exact hBO.len⟩)
   obtain ⟨a, ha⟩ : ∃ a, sy.map (·.f0) = a := ⟨_, rfl⟩
   obtain ⟨b, hb⟩ : ∃ b, its.map (·.nm) = b := ⟨_, rfl⟩
   have HNA := mk0 (show sy.map (·.f0) = a ∧ fs.map (·.f0) = b from ⟨ha, by rw [hfs, zro_names]; exact hb⟩)
   have HST := mk0 (show rbods a b its = rbodsA a b [] (its.drop 0) from (rbodsA_start a b its).symm)
   clear hrn hfs hbo hBO HV ha hb
   have d1 := (HFK.out).cells.2.1.2
   go_upto_block 0 with (fail)
   clear d1
   go_wp2_with fail
   go_loopg [7, 29] its.length (fun gg v7 v29 wi => ∃ (j : Nat) (acc : List S52) (A4 : Option Addr) (c4 : Nat), j ≤ its.length ∧ its.length - j ≤ gg ∧ v7 = .slice A4 acc.length c4 ∧ v29 = .int .i64 (j : Int) ∧ Aside0 (rbods a b its = rbodsA a b acc (its.drop j)) ∧ Aside0 (acc.length = j) ∧ Aside0 (FK W w2 wi sy fs A1 c1 A2 c2 acc A4 c4))
   case atStart => exact ⟨0, [], none, 0, Nat.zero_le _, Nat.le_refl _, rfl, rfl, HST, ⟨rfl⟩, HFK⟩
   case round =>
    clear HFK HST
    obtain ⟨j, acc, A4, c4, hj, hgg, rfl, rfl, HE, HL, HF⟩ := hrel
    by_cases hlt : j < its.length
    ·have hlt2 : (j : Int) < (fs.length : Int) := by have := HSL.out; omega
     have hlf : j < fs.length := by have := HSL.out; omega
     have HCF := mk0 (Kd.C_below (Kd.R_reads' (HROW.out).r2).2.2 (HF.out).hb)
     have HCS := mk0 (Kd.C_below (Kd.R_reads' (HROW.out).r1).2.2 (HF.out).hb)
     have HCB := mk0 (Kd.C_below (Kd.R_reads' (HROW.out).r3).2.2 (HF.out).hb)
     have HCP := mk0 (And.intro (Kd.R_reads' (HROW.out).r1).2.1 (Kd.R_reads' (HROW.out).r2).2.1)
     have HLEN := mk0 (show sy.length ≤ 70000 ∧ its.length ≤ 70000 from by have := rnames_len HRN.out; have h2 : s.data.toList.length = s.size := rfl; have := HZ.out; omega)
     obtain ⟨ad, _, _, _, _, eA, _⟩ := at_T52 HCF.out (j : Int) (by omega) hlt2
     subst eA
     have hel := elem52 (HROW.out).r2 hlf
     have hz0 : fs.getD j z52 = zro its[j] := by
      have h := HFS.out
      simp only [h, l18_, List.getElem?_map, l17_ hlt, Option.map_some, Option.getD_some]
     rw [hz0] at hel
     obtain ⟨A6, c6, A7, c7, x0, x1, x2, x3, x4, hr6⟩ := hel
     have HR6 := mk0 (Kd.R_below (Kd.R_bound hr6) (HF.out).hb)
     replace x0 := aT_ (HF.out).hb x0
     replace x1 := aT_ (HF.out).hb x1
     replace x2 := aT_ (HF.out).hb x2
     replace x3 := aT_ (HF.out).hb x3
     replace x4 := aT_ (HF.out).hb x4
     have hjb : j < bo.length := by have := HSL.out; omega
     have hps : j < ps.length := by have h := (HBK.out).len; omega
     have HAT := mk0 ((HBK.out).at_ j hps hlt)
     obtain ⟨ad3, _, e3, _⟩ := Kd.C_get HCB.out (0 : Int) (j : Int) (by omega) (by omega)
     subst e3
     have hcB := Kd.foot_int HCB.out (j : Int) (by omega) (by omega)
     have hbj : rd bo (j : Int) = ((ps[j] : Nat) : Int) := by
      have h := HBS.out
      simp only [rd, h, l18_, l14_, List.getElem?_map, l17_ hps, Option.map_some, Option.getD_some]
     rw [hbj, l14_] at hcB
     have hdr := dropS hlt
     have HE2 := mk0 (show rbods a b its = rbodsA a b acc (its[j] :: its.drop (j + 1)) by rw [HE.out, hdr])
     clear hr6 hz0 hbj hdr HE
     generalize its[j] = it at *
     generalize ps[j] = p at *
     go_upto_region 10 with (fail)
     have hba := aA_ (Below.refl wr.heap.size wr) (.cells #[.string (zro it).f0, .slice A6 (zro it).f1.f0.length c6, .int .i64 (zro it).f2.f0, .int .i64 (zro it).f2.f1, .slice A7 (zro it).f2.f2.length c7] 52)
     have HF9 := mk0 ((HF.out).below hba)
     have HX9 := mk0 (aS_ wr (.cells #[.string (zro it).f0, .slice A6 (zro it).f1.f0.length c6, .int .i64 (zro it).f2.f0, .int .i64 (zro it).f2.f1, .slice A7 (zro it).f2.f2.length c7] 52))
     have HR9 := mk0 (Kd.R_below HR6.out hba)
     have HS9 := mk0 (And.intro (Kd.C_below HCS.out hba) (Kd.C_below HCF.out hba))
     have hc9 := aT_ hba hcB
     have HLT4 := mk0 (Kd.R_lt (HF9.out).r4)
     clear x0 x1 x2 x3 x4 hcB HR6 HCS HCF HCB HF hba
     generalize (wr.alloc (.cells #[.string (zro it).f0, .slice A6 (zro it).f1.f0.length c6, .int .i64 (zro it).f2.f0, .int .i64 (zro it).f2.f1, .slice A7 (zro it).f2.f2.length c7] 52)) = w9 at *
     generalize wr.heap.size = b9 at *
     obtain ⟨hdv, hhd⟩ : ∃ hdv, rhdR a b = hdv := ⟨_, rfl⟩
     have HK := mk0 (fun (W8 : World) (hW : Below w9.heap.size w9 W8) => (show W8.cell? ⟨w2.heap.size, 0, none⟩ = some (.slice A1 sy.length c1) ∧ W8.cell? ⟨w2.heap.size, 1, none⟩ = some (.slice (some ad) fs.length c2) ∧ W8.cell? (ad3.add j) = some (.int .i64 (p : Int)) from
      ⟨aT_ hW (HF9.out).cells.2.1.1, aT_ hW (HF9.out).cells.2.1.2, aT_ hW hc9⟩))
     have HT := mk0 (fun (W8 : World) (hW : Below w9.heap.size w9 W8) => rterm_calls (HCP.out).1 (HCP.out).2 (by have := HLEN.out; omega) (by have := HLEN.out; have := HSL.out; omega) s (by have := HZ.out; omega) it.body p W8 HAT.out (Kd.C_below (HS9.out).1 hW) (Kd.C_below (HS9.out).2 hW))
     rw [(HNA.out).1, (HNA.out).2, hhd] at HT
     unfold RtQ at HT
     have HHD := mk0 hhd
     clear hc9 hhd
     have hnn : (0 : Int) ≤ (j : Int) := by omega
     have hjbz : (j : Int) < (bo.length : Int) := by omega
     refine wp_region_noPanic ?_
     refine start_ (n := 15) (S := fun w' => w'.cell? ⟨w2.heap.size, 0, none⟩ = some (.slice A1 sy.length c1) ∧ w'.cell? ⟨w2.heap.size, 1, none⟩ = some (.slice (some ad) fs.length c2) ∧ w'.cell? (ad3.add j) = some (.int .i64 (p : Int))) (ds := []) #[false, false, false, false, false, false, false, false, false, false, false, false, false, false, false] (by kernel_rfl) rfl rfl (HK.out _ (below_drew (Below.refl _ _))) (fun hHeld => ?_)
     refine with_tabW tab20 bits20 (fun HT_ HW_ => ?_)
     have hd := below_drew (Below.refl w9.heap.size w9)
     have HSZD := mk0 (show w9.drew.heap.size = w9.heap.size from rfl)
     generalize w9.drew = wd at hd hHeld HSZD ⊢
     refine take_ (i := 0) (N := some 35) (v := ?_) (a' := ?_) #[true, false, false, false, false, false, false, false, false, false, false, false, false, false, false] rfl rfl (take_ofW HT_.out HW_.out (by kernel_rfl)) (fun _ _ _ h => h) (Or.inl ⟨by rfl, ?_⟩) hHeld ?_ ?_
     rotate_left
     ·rintro w' ⟨s0, s1, s2⟩
      go_simp
      with_reducible rfl
     rotate_left
     ·simp only [Act.put, l4_, l5_, l6_]
      rfl
     refine take_ (i := 1) (N := some 36) (v := ?_) (a' := ?_) #[true, true, false, false, false, false, false, false, false, false, false, false, false, false, false] rfl rfl (take_ofW HT_.out HW_.out (by kernel_rfl)) (fun _ _ _ h => h) (Or.inl ⟨by rfl, ?_⟩) hHeld ?_ ?_
     rotate_left
     ·rintro w' ⟨s0, s1, s2⟩
      go_simp
      with_reducible rfl
     rotate_left
     ·simp only [Act.put, l4_, l5_, l6_]
      rfl
     refine take_ (i := 2) (N := some 37) (v := ?_) (a' := ?_) #[true, true, true, false, false, false, false, false, false, false, false, false, false, false, false] rfl rfl (take_ofW HT_.out HW_.out (by kernel_rfl)) (fun _ _ _ h => h) (Or.inl ⟨by rfl, ?_⟩) hHeld ?_ ?_
     rotate_left
     ·rintro w' ⟨s0, s1, s2⟩
      go_simp
      with_reducible rfl
     rotate_left
     ·simp only [Act.put, l4_, l5_, l6_]
      rfl
     refine take_ (i := 3) (N := some 38) (v := ?_) (a' := ?_) #[true, true, true, true, false, false, false, false, false, false, false, false, false, false, false] rfl rfl (take_ofW HT_.out HW_.out (by kernel_rfl)) (fun _ _ _ h => h) (Or.inl ⟨by rfl, ?_⟩) hHeld ?_ ?_
     rotate_left
     ·rintro w' ⟨s0, s1, s2⟩
      go_simp
      with_reducible rfl
     rotate_left
     ·simp only [Act.put, l4_, l5_, l6_]
      rfl
     refine take_ (i := 4) (N := some 39) (v := ?_) (a' := ?_) #[true, true, true, true, true, false, false, false, false, false, false, false, false, false, false] rfl rfl (take_ofW HT_.out HW_.out (by kernel_rfl)) (fun _ _ _ h => h) (Or.inl ⟨by rfl, ?_⟩) hHeld ?_ ?_
     rotate_left
     ·rintro w' ⟨s0, s1, s2⟩
      go_simp
      with_reducible rfl
     rotate_left
     ·simp only [Act.put, l4_, l5_, l6_]
      rfl
     refine take_ (i := 5) (N := some 40) (v := ?_) (a' := ?_) #[true, true, true, true, true, true, false, false, false, false, false, false, false, false, false] rfl rfl (take_ofW HT_.out HW_.out (by kernel_rfl)) (fun _ _ _ h => h) (Or.inl ⟨by rfl, ?_⟩) hHeld ?_ ?_
     rotate_left
     ·rintro w' ⟨s0, s1, s2⟩
      go_simp
      with_reducible rfl
     rotate_left
     ·simp only [Act.put, l4_, l5_, l6_]
      rfl
     refine join_ (σ := GJs) 3 #[true, true, true, true, true, true, true, true, true, true, true, true, false, false, false] (fun x => [(41, (.tuple #[.agg #[.int .i64 x.1.f0, .int .i64 x.1.f1, .slice x.2.1 x.1.f2.length x.2.2.1], .int .i64 x.2.2.2.1, .bool x.2.2.2.2.1])), (34, (.tuple #[.agg #[.int .i64 x.1.f0, .int .i64 x.1.f1, .slice x.2.1 x.1.f2.length x.2.2.1], .int .i64 x.2.2.2.1, .bool x.2.2.2.2.1])), (42, (.agg #[.int .i64 x.1.f0, .int .i64 x.1.f1, .slice x.2.1 x.1.f2.length x.2.2.1])), (43, .int .i64 x.2.2.2.1), (44, .bool x.2.2.2.2.1), (10, .pointer (some ⟨x.2.2.2.2.2, 0, none⟩))]) (GJ w9 s hdv it.body) ?cont (fun hcont => ?orders)
     case orders =>
      refine two_ (i := 6) (j := 11) (Ni := some 41) (Nj := some 10) #[true, true, true, true, true, true, true, false, false, false, false, false, false, false, false] #[true, true, true, true, true, true, false, false, false, false, false, true, false, false, false] rfl rfl rfl rfl (two_of HT_.out (by kernel_rfl)) (by decide) (by decide) (fun K hK => ?_) (fun K hK => ?_)
      ·refine goes_ (f := 62) Tryz.func62 (by kernel_rfl) rfl #[.agg #[.slice A1 sy.length c1, .slice (some ad) fs.length c2], .string s, .int .i64 (p : Int)] (by rfl) rfl rfl (by (try simp only [List.map_toArray, List.map_cons, List.map_nil]); rfl) ?_
       refine (HT.out _ hd).mono ?_
       rintro E W4 ⟨hbc, t, A, c, q, ok, rfl, hR, hq⟩
       have hd4 := aL_ hd (by have := HSZD.out; omega) hbc
       have HR4 := mk0 (Kd.R_bound hR)
       refine ⟨_, rfl, ?_⟩
       refine hK.out _ _ (HK.out _ hd4) (fun hHeld => ?_)
       clear hK K
       refine norm_ (a' := ?_) ?_ ?_
       rotate_left
       ·show Act.put _ (some 41) _ = _
        simp only [Act.put, l4_, l5_, l6_]
        rfl
       refine take_ (i := 7) (N := some 34) (v := ?_) (a' := ?_) #[true, true, true, true, true, true, true, true, false, false, false, false, false, false, false] rfl rfl (take_ofW HT_.out HW_.out (by kernel_rfl)) (fun _ _ _ h => h) (Or.inl ⟨by rfl, ?_⟩) hHeld ?_ ?_
       rotate_left
       ·rintro w' ⟨s0, s1, s2⟩
        go_simp
        with_reducible rfl
       rotate_left
       ·simp only [Act.put, l4_, l5_, l6_]
        rfl
       refine take_ (i := 8) (N := some 42) (v := ?_) (a' := ?_) #[true, true, true, true, true, true, true, true, true, false, false, false, false, false, false] rfl rfl (take_ofW HT_.out HW_.out (by kernel_rfl)) (fun _ _ _ h => h) (Or.inl ⟨by rfl, ?_⟩) hHeld ?_ ?_
       rotate_left
       ·rintro w' ⟨s0, s1, s2⟩
        go_simp
        with_reducible rfl
       rotate_left
       ·simp only [Act.put, l4_, l5_, l6_]
        rfl
       refine take_ (i := 9) (N := some 43) (v := ?_) (a' := ?_) #[true, true, true, true, true, true, true, true, true, true, false, false, false, false, false] rfl rfl (take_ofW HT_.out HW_.out (by kernel_rfl)) (fun _ _ _ h => h) (Or.inl ⟨by rfl, ?_⟩) hHeld ?_ ?_
       rotate_left
       ·rintro w' ⟨s0, s1, s2⟩
        go_simp
        with_reducible rfl
       rotate_left
       ·simp only [Act.put, l4_, l5_, l6_]
        rfl
       refine take_ (i := 10) (N := some 44) (v := ?_) (a' := ?_) #[true, true, true, true, true, true, true, true, true, true, true, false, false, false, false] rfl rfl (take_ofW HT_.out HW_.out (by kernel_rfl)) (fun _ _ _ h => h) (Or.inl ⟨by rfl, ?_⟩) hHeld ?_ ?_
       rotate_left
       ·rintro w' ⟨s0, s1, s2⟩
        go_simp
        with_reducible rfl
       rotate_left
       ·simp only [Act.put, l4_, l5_, l6_]
        rfl
       refine one_ (i := 11) (N := some 10) #[true, true, true, true, true, true, true, true, true, true, true, true, false, false, false] rfl rfl (one_of HT_.out (by kernel_rfl)) (by decide) (fun K hK => ?_)
       refine box_step (by rfl) (N := 10) ?hd (cs := #[.int .i64 0, .int .i64 0, .slice none 0 0]) (t := 50) ?hr ?_
       (case hd => rfl)
       (case hr => first | (go_simp; done) | (go_simp; rfl))
       intro b10 hg W5 hbox hb5
       have hd5 := aL_ hd4 hd4.size hb5
       refine hK.out _ _ (HK.out _ hd5) (fun hHeld => ?_)
       clear hK K
       refine norm_ (a' := ?_) ?_ ?_
       rotate_left
       ·show Act.put _ (some 10) _ = _
        simp only [Act.put, l4_, l5_, l6_]
        rfl
       exact norm_ (by simp only [putAll, Act.put, l4_, l5_, l6_]) (hcont (t, A, c, q, ok, b10) _ ⟨hd5, hbox, (by rw [hg]; exact hd4.size), (Kd.R_mono (Kd.R_lower (Kd.R_below HR4.out hb5) (Nat.le_of_eq HSZD.out.symm)) (fun k hk => ⟨by have := hk.2.1; have := HSZD.out; omega, show k ≠ b10 from by have := hk.2.2.1; omega⟩)), hq⟩)
      ·refine box_step (by rfl) (N := 10) ?hd (cs := #[.int .i64 0, .int .i64 0, .slice none 0 0]) (t := 50) ?hr ?_
       (case hd => rfl)
       (case hr => first | (go_simp; done) | (go_simp; rfl))
       intro b10 hg W5 hbox hb5
       have hd5 := aL_ hd (by have := HSZD.out; omega) hb5
       refine hK.out _ _ (HK.out _ hd5) (fun hHeld => ?_)
       clear hK K
       refine norm_ (a' := ?_) ?_ ?_
       rotate_left
       ·show Act.put _ (some 10) _ = _
        simp only [Act.put, l4_, l5_, l6_]
        rfl
       refine one_ (i := 6) (N := some 41) #[true, true, true, true, true, true, true, false, false, false, false, true, false, false, false] rfl rfl (one_of HT_.out (by kernel_rfl)) (by decide) (fun K hK => ?_)
       refine goes_ (f := 62) Tryz.func62 (by kernel_rfl) rfl #[.agg #[.slice A1 sy.length c1, .slice (some ad) fs.length c2], .string s, .int .i64 (p : Int)] (by rfl) rfl rfl (by (try simp only [List.map_toArray, List.map_cons, List.map_nil]); rfl) ?_
       refine (HT.out _ hd5).mono ?_
       rintro E W4 ⟨hbc, t, A, c, q, ok, rfl, hR, hq⟩
       have hd4 := aL_ hd5 hd5.size hbc
       have HLT := mk0 (blk_lt hbox)
       refine ⟨_, rfl, ?_⟩
       refine hK.out _ _ (HK.out _ hd4) (fun hHeld => ?_)
       clear hK K
       refine norm_ (a' := ?_) ?_ ?_
       rotate_left
       ·show Act.put _ (some 41) _ = _
        simp only [Act.put, l4_, l5_, l6_]
        rfl
       refine take_ (i := 7) (N := some 34) (v := ?_) (a' := ?_) #[true, true, true, true, true, true, true, true, false, false, false, true, false, false, false] rfl rfl (take_ofW HT_.out HW_.out (by kernel_rfl)) (fun _ _ _ h => h) (Or.inl ⟨by rfl, ?_⟩) hHeld ?_ ?_
       rotate_left
       ·rintro w' ⟨s0, s1, s2⟩
        go_simp
        with_reducible rfl
       rotate_left
       ·simp only [Act.put, l4_, l5_, l6_]
        rfl
       refine take_ (i := 8) (N := some 42) (v := ?_) (a' := ?_) #[true, true, true, true, true, true, true, true, true, false, false, true, false, false, false] rfl rfl (take_ofW HT_.out HW_.out (by kernel_rfl)) (fun _ _ _ h => h) (Or.inl ⟨by rfl, ?_⟩) hHeld ?_ ?_
       rotate_left
       ·rintro w' ⟨s0, s1, s2⟩
        go_simp
        with_reducible rfl
       rotate_left
       ·simp only [Act.put, l4_, l5_, l6_]
        rfl
       refine take_ (i := 9) (N := some 43) (v := ?_) (a' := ?_) #[true, true, true, true, true, true, true, true, true, true, false, true, false, false, false] rfl rfl (take_ofW HT_.out HW_.out (by kernel_rfl)) (fun _ _ _ h => h) (Or.inl ⟨by rfl, ?_⟩) hHeld ?_ ?_
       rotate_left
       ·rintro w' ⟨s0, s1, s2⟩
        go_simp
        with_reducible rfl
       rotate_left
       ·simp only [Act.put, l4_, l5_, l6_]
        rfl
       refine take_ (i := 10) (N := some 44) (v := ?_) (a' := ?_) #[true, true, true, true, true, true, true, true, true, true, true, true, false, false, false] rfl rfl (take_ofW HT_.out HW_.out (by kernel_rfl)) (fun _ _ _ h => h) (Or.inl ⟨by rfl, ?_⟩) hHeld ?_ ?_
       rotate_left
       ·rintro w' ⟨s0, s1, s2⟩
        go_simp
        with_reducible rfl
       rotate_left
       ·simp only [Act.put, l4_, l5_, l6_]
        rfl
       exact norm_ (by simp only [putAll, Act.put, l4_, l5_, l6_]) (hcont (t, A, c, q, ok, b10) _ ⟨hd4, aJ_ hbox hbc, (show w9.heap.size ≤ b10 from by rw [hg]; have := HSZD.out; omega), (Kd.R_mono (Kd.R_lower hR hd5.size) (fun k hk => ⟨Nat.le_trans hd5.size hk, show k ≠ b10 from by have := HLT.out; omega⟩)), hq⟩)
     case cont =>
      rintro ⟨t, A, c, q, ok, b10⟩ W6 ⟨hd6, hbx, hle, hR, hq⟩
      dsimp only at hbx hle hR hq
      refine norm_ (a' := ?_) ?_ ?_
      rotate_left
      ·show putAll _ _ = _
       simp only [putAll, Act.put, l4_, l5_, l6_]
       rfl
      have HST7 := mk0 (GJ.store (v0 := .int .i64 t.f0) (v1 := .int .i64 t.f1) (v2 := .slice A t.f2.length c) hd6 hbx hle hR)
      have kb0 : W6.cell? ⟨b10, 0, none⟩ = some (.int .i64 0) := (aC_ hbx 0).trans rfl
      have kb1 : W6.cell? ⟨b10, 1, none⟩ = some (.int .i64 0) := (aC_ hbx 1).trans rfl
      have kb2 : W6.cell? ⟨b10, 2, none⟩ = some (.slice none 0 0) := (aC_ hbx 2).trans rfl
      have fb0 := aF_ hbx 0
      have fb1 := aF_ hbx 1
      have fb2 := aF_ hbx 2
      have HQ := mk0 hq
      have HLE := mk0 hle
      clear hd6 hbx hle hR hq
      refine one_ (i := 12) (N := none) #[true, true, true, true, true, true, true, true, true, true, true, true, true, false, false] rfl rfl (one_of HT_.out (by kernel_rfl)) (by decide) (fun K hK => ?_)
      refine skip_ (w1 := ((W6.setCell ⟨b10, 0, none⟩ (.int .i64 t.f0)).setCell ⟨b10, 1, none⟩ (.int .i64 t.f1)).setCell ⟨b10, 2, none⟩ (.slice A t.f2.length c)) (by rfl) rfl ?_ ?_
      ·go_simp
      clear kb0 kb1 kb2 fb0 fb1 fb2
      generalize ((W6.setCell ⟨b10, 0, none⟩ (.int .i64 t.f0)).setCell ⟨b10, 1, none⟩ (.int .i64 t.f1)).setCell ⟨b10, 2, none⟩ (.slice A t.f2.length c) = w7 at *
      refine hK.out _ _ (HK.out _ (HST7.out).1) (fun hHeld => ?_)
      clear hK K
      refine take_ (i := 13) (N := some 11) (v := ?_) (a' := ?_) #[true, true, true, true, true, true, true, true, true, true, true, true, true, true, false] rfl rfl (take_ofW HT_.out HW_.out (by kernel_rfl)) (fun _ _ _ h => h) (Or.inl ⟨by rfl, ?_⟩) hHeld ?_ ?_
      rotate_left
      ·rintro w' ⟨s0, s1, s2⟩
       go_simp
       with_reducible rfl
      rotate_left
      ·simp only [Act.put, l4_, l5_, l6_]
       rfl
      refine take_ (i := 14) (N := some 12) (v := ?_) (a' := ?_) #[true, true, true, true, true, true, true, true, true, true, true, true, true, true, true] rfl rfl (take_ofW HT_.out HW_.out (by kernel_rfl)) (fun _ _ _ h => h) (Or.inl ⟨by rfl, ?_⟩) hHeld ?_ ?_
      rotate_left
      ·rintro w' ⟨s0, s1, s2⟩
       go_simp
       with_reducible rfl
      rotate_left
      ·simp only [Act.put, l4_, l5_, l6_]
       rfl
      refine done_ (done_of HT_.out (by kernel_rfl)) ?_
      refine NoPanic.normal ?_
      have hb7 := (HST7.out).1
      have HF7 := mk0 ((HF9.out).below hb7)
      have HX7 := mk0 (aJ_ HX9.out hb7)
      have HR7 := mk0 (Kd.R_below HR9.out hb7)
      have HRT := mk0 (HST7.out).2.2
      have HB7 := mk0 (HST7.out).2.1
      have HG7 := mk0 (show w2.heap.size < w9.heap.size from blk_lt (HF9.out).h2)
      clear hb7
      cases ok with
      | false =>
       have hqn := (HQ.out.resolve_left (fun h => Bool.noConfusion h.1)).2
       have HR := mk0 (rgetR_bad2 HZ.out HRN.out (show rbods (sy.map (·.f0)) (its.map (·.nm)) its = none from by
        have h1 := (HNA.out).1
        have h2 := (HNA.out).2
        have h3 := HFS.out
        rw [h3, zro_names] at h2
        rw [h1, h2, HE2.out]
        exact rbodsA_none (by rw [HHD.out]; exact hqn)))
       clear hqn HQ
       have HBO := mk0 (((aL_ HB2.out (HB2.out).size (HF7.out).hb).setCell (p := ⟨W.heap.size, 0, none⟩) (Nat.le_refl _) (.slice none 0 0)).setCell (p := ⟨W.heap.size, 1, none⟩) (Nat.le_refl _) (.slice none 0 0))
       have HXO := mk0 (blk_set (blk_set (HF7.out).h1 0 (.slice none 0 0)) 1 (.slice none 0 0))
       obtain ⟨⟨e0, e1⟩, _, f0, f1, _⟩ := (HF7.out).cells
       go_wp2
       refine bodyPost_ret (aN_ rfl _ _ W.heap.size 25 #[.slice none 0 0, .slice none 0 0] (0, 0) _ rfl HXO.out Tryz.underlying25 rfl (by kernel_rfl)) rfl ?_
       exact rgQ_zero HR.out HBO.out
      | true =>
       obtain ⟨_, r, p1, htm, rfl, hA1⟩ := HQ.out.resolve_right (fun h => Bool.noConfusion h.1)
       have HTM := mk0 (show tmRG (rhdR a b) it.body = some (t, r) by rw [HHD.out]; exact htm)
       have H10 := mk0 (fun W' => bg3_calls s (by have := HZ.out; omega) hA1.le hA1.eq ⟨#[10]⟩ (by decide) W')
       rw [show (ByteArray.mk #[10]).data.toList = [10] from rfl] at H10
       clear htm hA1 HQ
       go_wp2_with fail
       refine (H10.out _).mono ?_
       rintro E w8 ⟨rfl, hb⟩
       have HF8 := mk0 ((HF7.out).below hb)
       have HX8 := mk0 (aJ_ HX7.out hb)
       have HR8 := mk0 (Kd.R_below HR7.out hb)
       have HRU := mk0 (Kd.R_below HRT.out hb)
       have HB8 := mk0 (aJ_ HB7.out hb)
       clear hb HF7 HX7 HR7 HRT HB7 H10
       cases q1 : Lib.hasPrefix r [10] with
       | false =>
        have HR := mk0 (rgetR_bad2 HZ.out HRN.out (show rbods (sy.map (·.f0)) (its.map (·.nm)) its = none from by
         have h1 := (HNA.out).1
         have h2 := (HNA.out).2
         have h3 := HFS.out
         rw [h3, zro_names] at h2
         rw [h1, h2, HE2.out]
         exact rbodsA_bad HTM.out q1))
        clear q1
        have HBO := mk0 (((aL_ HB2.out (HB2.out).size (HF8.out).hb).setCell (p := ⟨W.heap.size, 0, none⟩) (Nat.le_refl _) (.slice none 0 0)).setCell (p := ⟨W.heap.size, 1, none⟩) (Nat.le_refl _) (.slice none 0 0))
        have HXO := mk0 (blk_set (blk_set (HF8.out).h1 0 (.slice none 0 0)) 1 (.slice none 0 0))
        obtain ⟨⟨e0, e1⟩, _, f0, f1, _⟩ := (HF8.out).cells
        go_wp2
        refine bodyPost_ret (aN_ rfl _ _ W.heap.size 25 #[.slice none 0 0, .slice none 0 0] (0, 0) _ rfl HXO.out Tryz.underlying25 rfl (by kernel_rfl)) rfl ?_
        exact rgQ_zero HR.out HBO.out
       | true =>
        have HE3 := mk0 (HE2.out.trans (rbodsA_step HTM.out q1))
        clear q1 HE2
        have HLB := mk0 (show (acc.length + 1) * 80 ≤ 140737488355328 by have := HL.out; have := HLEN.out; omega)
        have HAW := mk0 (show acc.length + 1 = j + 1 by rw [HL.out])
        have m0 : w8.cell? ⟨b9, 0, none⟩ = some (.string it.nm) := (aC_ HX8.out 0).trans rfl
        have m1 : w8.cell? ⟨b9, 1, none⟩ = some (.slice A6 it.s.f0.length c6) := (aC_ HX8.out 1).trans rfl
        have n0 : w8.cell? ⟨b10, 0, none⟩ = some (.int .i64 t.f0) := (aC_ HB8.out 0).trans rfl
        have n1 : w8.cell? ⟨b10, 1, none⟩ = some (.int .i64 t.f1) := (aC_ HB8.out 1).trans rfl
        have n2 : w8.cell? ⟨b10, 2, none⟩ = some (.slice A t.f2.length c) := (aC_ HB8.out 2).trans rfl
        have HOW := mk0 (show ∀ k, (Value.slice A4 acc.length c4).ownBlock = some k → w2.heap.size < k from (HF8.out).ow)
        have HSO := mk0 (show Kd.R k47 47 w8 W.heap.size (fun k => (W.heap.size < k ∧ k ≠ w2.heap.size) ∧ some k ≠ (Value.slice A4 acc.length c4).ownBlock) (.slice A6 it.s.f0.length c6) it.s.f0 from Kd.R_mono (Kd.R_lower HR8.out (by have := HSZ1.out; omega)) (fun k hk => ⟨⟨by have := HSZ1.out; have := hk.1; omega, by have := hk.2.2.1; omega⟩, fun e => by have := HOW.out k e.symm; have := hk.2.2.1; omega⟩))
        have HTO := mk0 (show Kd.R k50 50 w8 W.heap.size (fun k => (W.heap.size < k ∧ k ≠ w2.heap.size) ∧ some k ≠ (Value.slice A4 acc.length c4).ownBlock) (.slice A t.f2.length c) t.f2 from Kd.R_mono (Kd.R_lower HRU.out (by have := HG7.out; have := HSZ.out; omega)) (fun k hk => ⟨⟨by have := HG7.out; have := HSZ.out; have := hk.1; omega, by have := HG7.out; have := hk.1; omega⟩, fun e => by have := HLT4.out k e.symm; have := hk.1; omega⟩))
        have HFRE := mk0 (show ∀ k, w8.heap.size ≤ k → W.heap.size < k ∧ k ≠ w2.heap.size from fun k hk => by have h1 := blk_lt (HF8.out).h2; have h2 := HSZ.out; omega)
        have HBW := mk0 (show Below W.heap.size W w8 from aL_ HB2.out (HB2.out).size (HF8.out).hb)
        have HBZ := mk0 (show W.heap.size ≤ w8.heap.size from (HBW.out).size)
        go_wp2_with ((with_reducible refine gate_builtin (b := .append) (xs := #[.tmp 54, .tmp 61]) rfl ?_); at_builtin; refine Kd.R_append k52 (w0 := W) W.heap.size rfl (.tmp 54) (.tmp 61) 23 52 (.agg #[.string ⟨#[]⟩, .slice none 0 0, .int .i64 0, .int .i64 0, .slice none 0 0]) 80 rfl Tryz.underlying23 Q.info52 rfl (show 0 < 5 by decide) (by decide) (.slice A4 acc.length c4) acc (⟨it.nm, it.s, t⟩ : S52) [.string it.nm, .slice A6 it.s.f0.length c6, .int .i64 t.f0, .int .i64 t.f1, .slice A t.f2.length c] (fun k => W.heap.size < k ∧ k ≠ w2.heap.size) (fun k => (W.heap.size < k ∧ k ≠ w2.heap.size) ∧ some k ≠ (Value.slice A4 acc.length c4).ownBlock) rfl rfl (Q.k52_mkM _ _ _ ⟨it.nm, it.s, t⟩ HSO.out HTO.out) (fun _ hk => hk) (fun k hk => HFRE.out k hk) (HF8.out).r4 HBW.out HBZ.out HLB.out ?_; intro v9 w11 ho5 hb5 hg5 hat5; (obtain ⟨A9, c9, rfl⟩ := Kd.R_slice ho5); have HF11 := mk0 ((HF8.out).push HSZ.out ho5 (pw_below_grown (HF8.out).hb _ (HF8.out).hb.size hg5 (fun k hk => Nat.le_of_lt (HOW.out k hk))) hg5 hat5); clear ho5 hb5 hg5 hat5)
        go_roundg (its.length - (j + 1))
        case measure => omega
        case rel => exact ⟨j + 1, acc ++ [⟨it.nm, it.s, t⟩], A9, c9, hlt, Nat.le_refl _, by first | rfl | rw [l7_, l10_], by rw [wrap_succ (by omega) (by have := HLEN.out; omega)]; rfl, HE3, ⟨by rw [l7_, l10_]; exact HAW.out⟩, HF11⟩
    ·have hlt2 : ¬ (j : Int) < (fs.length : Int) := by have := HSL.out; omega
     have HOK := mk0 (show rbods a b its = some acc from by rw [HE.out, l15_ (by omega)]; exact rbodsA_end a b acc)
     have HSYL := mk0 (Kd.R_reads' (HROW.out).r1)
     have HAL := mk0 (Kd.R_reads' (HF.out).r4)
     have HRG := mk0 (rgetR_ok HZ.out HRN.out (show rbods (sy.map (·.f0)) (its.map (·.nm)) its = some acc from by
      have h1 := (HNA.out).1
      have h2 := (HNA.out).2
      have h3 := HFS.out
      rw [h3, zro_names] at h2
      rw [h1, h2]
      exact HOK.out))
     obtain ⟨⟨e0, e1⟩, ⟨d0, d1⟩, f0, f1, g1⟩ := (HF.out).cells
     have HB5 := mk0 ((HF.out).hb.setCell (p := ⟨w2.heap.size, 1, none⟩) (Nat.le_refl _) (.slice A4 acc.length c4))
     have HX5 := mk0 (blk_far (HF.out).h1 (p := ⟨w2.heap.size, 1, none⟩) (by have := HSZ.out; show W.heap.size ≠ w2.heap.size; omega) (.slice A4 acc.length c4))
     have HG5 := mk0 (blk_set (HF.out).h2 1 (.slice A4 acc.length c4))
     have HR5 := mk0 (Kd.R_far (p := ⟨w2.heap.size, 1, none⟩) (HF.out).r4 (fun k hk => hk.2) (.slice A4 acc.length c4))
     go_upto_region 16 with (fail)
     clear e0 e1 d0 d1 f0 f1 g1
     generalize (wr.setCell ⟨w2.heap.size, 1, none⟩ (.slice A4 acc.length c4)) = w5 at *
     have e0 : w5.cell? ⟨W.heap.size, 0, none⟩ = some (.slice none 0 0) := (aC_ HX5.out 0).trans rfl
     have e1 : w5.cell? ⟨W.heap.size, 1, none⟩ = some (.slice none 0 0) := (aC_ HX5.out 1).trans rfl
     have d0 : w5.cell? ⟨w2.heap.size, 0, none⟩ = some (.slice A1 sy.length c1) := (aC_ HG5.out 0).trans rfl
     have d1 : w5.cell? ⟨w2.heap.size, 1, none⟩ = some (.slice A4 acc.length c4) := (aC_ HG5.out 1).trans rfl
     have HIS := mk0 (risch_calls sy acc A1 A4 c1 c4 w5 (Kd.C_below (HSYL.out).2.2 HB5.out) (Kd.R_reads' HR5.out).2.2 (HSYL.out).2.1 (HAL.out).2.1)
     have HRSY := mk0 (Kd.R_below (HROW.out).r1 HB5.out)
     have HB6 := mk0 (aL_ HB2.out (HB2.out).size HB5.out)
     go_wp2_with fail
     refine (HIS.out).mono ?_
     rintro E w6 ⟨rfl, hb⟩
     have HB7 := mk0 (aL_ HB6.out (HB6.out).size hb)
     have HX7 := mk0 (aJ_ HX5.out hb)
     have HG7 := mk0 (aJ_ HG5.out hb)
     have HR7 := mk0 (Kd.R_below HR5.out hb)
     have HY7 := mk0 (Kd.R_below HRSY.out hb)
     clear hb e0 e1 d0 d1 HIS HX5 HG5 HR5 HRSY
     have e0 : w6.cell? ⟨W.heap.size, 0, none⟩ = some (.slice none 0 0) := (aC_ HX7.out 0).trans rfl
     have e1 : w6.cell? ⟨W.heap.size, 1, none⟩ = some (.slice none 0 0) := (aC_ HX7.out 1).trans rfl
     have d0 : w6.cell? ⟨w2.heap.size, 0, none⟩ = some (.slice A1 sy.length c1) := (aC_ HG7.out 0).trans rfl
     have d1 : w6.cell? ⟨w2.heap.size, 1, none⟩ = some (.slice A4 acc.length c4) := (aC_ HG7.out 1).trans rfl
     have f0 := aF_ HX7.out 0
     have f1 := aF_ HX7.out 1
     cases qv : schB sy acc with
     | false =>
      have HRR := mk0 (show rgetR s = (7, [], []) from by rw [HRG.out, qv]; rfl)
      have HBO := mk0 (((HB7.out).setCell (p := ⟨W.heap.size, 0, none⟩) (Nat.le_refl _) (.slice none 0 0)).setCell (p := ⟨W.heap.size, 1, none⟩) (Nat.le_refl _) (.slice none 0 0))
      have HXO := mk0 (blk_set (blk_set HX7.out 0 (.slice none 0 0)) 1 (.slice none 0 0))
      clear qv
      go_wp2
      refine bodyPost_ret (aN_ rfl _ _ W.heap.size 25 #[.slice none 0 0, .slice none 0 0] (0, 0) _ rfl HXO.out Tryz.underlying25 rfl (by kernel_rfl)) rfl ?_
      exact rgQ_zero HRR.out HBO.out
     | true =>
      have HRR := mk0 (show rgetR s = (0, sy, acc) from by rw [HRG.out, qv]; rfl)
      have HBO := mk0 (((HB7.out).setCell (p := ⟨W.heap.size, 0, none⟩) (Nat.le_refl _) (.slice A1 sy.length c1)).setCell (p := ⟨W.heap.size, 1, none⟩) (Nat.le_refl _) (.slice A4 acc.length c4))
      have HXO := mk0 (blk_set (blk_set HX7.out 0 (.slice A1 sy.length c1)) 1 (.slice A4 acc.length c4))
      have HQ1 := mk0 (Kd.R_far (p := ⟨W.heap.size, 1, none⟩) (Kd.R_far (p := ⟨W.heap.size, 0, none⟩) HY7.out (fun k hk => by have := HSZ1.out; show k ≠ W.heap.size; omega) (.slice A1 sy.length c1)) (fun k hk => by have := HSZ1.out; show k ≠ W.heap.size; omega) (.slice A4 acc.length c4))
      have HQ2 := mk0 (Kd.R_far (p := ⟨W.heap.size, 1, none⟩) (Kd.R_far (p := ⟨W.heap.size, 0, none⟩) HR7.out (fun k hk => by have := hk.1; show k ≠ W.heap.size; omega) (.slice A1 sy.length c1)) (fun k hk => by have := hk.1; show k ≠ W.heap.size; omega) (.slice A4 acc.length c4))
      clear qv
      go_wp2
      refine bodyPost_ret (aN_ rfl _ _ W.heap.size 25 #[.slice A1 sy.length c1, .slice A4 acc.length c4] (0, 0) _ rfl HXO.out Tryz.underlying25 rfl (by kernel_rfl)) rfl ?_
      exact ⟨HBO.out, sy, acc, A1, c1, A4, c4, 0, rfl, (HRR.out).symm, Kd.R_mono (Kd.R_lower HQ1.out (by have := HSZ1.out; omega)) (fun k hk => by have := HSZ1.out; omega), Kd.R_mono HQ2.out (fun k hk => by have := hk.1; omega)⟩
theorem schemeGet_calls (s : ByteArray) (w : World) (hm : MX w) : Calls Tryz.prog 5 #[.string s] w fun E w' => E = .returned (.bool true) ∧ Below w.heap.size w w' :=
 schemeGet_of rget_calls s w hm
def Opens {α : Type} (P : Program) (t : TypeId) (d : Kd α) (W : α → Prop) : Prop :=
 ∀ {H : Type} (enc : TypeId × Value → H) (w : World) (base : Nat) (held : Bool) (fuel : Nat) (cs : List Value) (x : DataW H × List MemPlace),
  DataW.trod enc P w base (fun _ => true) held fuel t cs = some x → ∃ a : α, d.K w a cs ∧ W a
theorem choose_list {α : Type} {p : Nat → α → Prop} {n : Nat} (h : ∀ i, i < n → ∃ y, p i y) : ∃ xs : List α, xs.length = n ∧ ∀ i y, xs[i]? = some y → p i y := by
 induction n with
 | zero => exact ⟨[], rfl, fun i y h => by simp at h⟩
 | succ n ih =>
  obtain ⟨xs, h1, h2⟩ := ih (fun i hi => h i (by omega))
  obtain ⟨y, hy⟩ := h n (by omega)
  refine ⟨xs ++ [y], by simp [h1], fun i z hz => ?_⟩
  rcases Nat.lt_or_ge i xs.length with hi | hi
  ·rw [List.getElem?_append_left hi] at hz
   exact h2 i z hz
  ·rw [List.getElem?_append_right hi] at hz
   have h3 : i - xs.length = 0 := by
    rcases Nat.eq_zero_or_pos (i - xs.length) with h | h
    ·exact h
    ·rw [List.getElem?_eq_none (by simp; omega)] at hz; cases hz
   rw [h3] at hz
   obtain rfl : y = z := by simpa using hz
   rw [show i = n from by omega]
   exact hy
theorem opens_slice {α : Type} {P : Program} {t e : TypeId} {d : Kd α} {W : α → Prop} (ht : P.underlying t = some (.slice e)) (hsz : P.cellsOf e = d.sz) (ho : Opens P e d W) : Opens P t (Kd.slice e d) (fun xs => ∀ x ∈ xs, W x) := by
 intro H enc w base held fuel cs x h
 rcases open_slice ht h with ⟨rfl, _⟩ | ⟨a, len, cap, m, n, D, Pl, rfl, _, hl, hm, hmm, _, hx⟩
 ·exact ⟨[], ⟨none, 0, rfl, Nat.le_refl _, rfl, by simp, fun h0 => absurd h0 (by simp)⟩, by simp⟩
 ·have hmm' : m = cap := by simpa using hmm
  have each : ∀ i, i < len → ∃ y : α, ∃ cs', w.cells? base (a.add (i * P.cellsOf e)) (P.cellsOf e) = some cs' ∧ d.K w y cs' ∧ W y := by
   intro i hi
   obtain ⟨cs', h1, h2⟩ := hx i (by omega)
   obtain ⟨y, hy, hw⟩ := ho enc w base held n cs' _ h2
   exact ⟨y, cs', h1, hy, hw⟩
  obtain ⟨xs, hxl, hxs⟩ := choose_list each
  refine ⟨xs, ⟨some a, cap, by rw [hxl], by omega, rfl, ?_, fun _ => ⟨a, rfl, fun j p hj => ?_⟩⟩, fun y hy => ?_⟩
  ·have : maxLen = 9223372036854775807 := rfl
   omega
  ·obtain ⟨cs', h1, h2, _⟩ := hxs j p hj
   obtain ⟨_, hlen, hcell⟩ := World.cells?_some h1
   refine ⟨cs', d.K_len h2, h2, fun i u hu => ?_⟩
   have hi : i < cs'.length := (List.getElem?_eq_some_iff.1 hu).1
   have h3 := hcell i (by omega)
   rw [Go.Deep.add_add, hsz] at h3
   rw [h3]; exact hu
  ·obtain ⟨j, hj, rfl⟩ := List.getElem_of_mem hy
   obtain ⟨_, _, _, h3⟩ := hxs j _ (l17_ hj)
   exact h3
theorem open_row {α H : Type} {enc : TypeId × Value → H} {P : Program} {t e : TypeId} {d : Kd α} {W : α → Prop} {w : World} {base fuel : Nat} {held : Bool} {v : Value} {x : DataW H × List MemPlace} (ht : P.underlying t = some (.slice e)) (hsz : P.cellsOf e = d.sz) (ho : Opens P e d W)
  (h : DataW.trod enc P w base (fun _ => true) held fuel t [v] = some x) : ∃ A c xs, v = .slice A xs.length c ∧ xs.length ≤ c ∧ d.C w A xs.length xs ∧ ∀ y ∈ xs, W y := by
 obtain ⟨xs, ⟨A, c, hv, hc, hC⟩, hW⟩ := opens_slice ht hsz ho enc w base held fuel [v] x h
 exact ⟨A, c, xs, by simpa using hv, hc, hC, hW⟩
theorem open_kidsG {α H : Type} {d : Kd α} {ts te : TypeId} (hts : Tryz.prog.underlying ts = some (.slice te)) (hsz : Tryz.prog.cellsOf te = d.sz) {enc : TypeId × Value → H} {w : World} {base fuel : Nat} {held : Bool} {cs : List Value} {x : DataW H × List MemPlace} (h : DataW.trod enc Tryz.prog w base (fun _ => true) held fuel ts cs = some x)
  (each : ∀ (fuel : Nat) (cs : List Value) (y : DataW H × List MemPlace), SizeOf.sizeOf y.1 < SizeOf.sizeOf x.1 → DataW.trod enc Tryz.prog w base (fun _ => true) held fuel te cs = some y → ∃ t : α, d.K w t cs) :
  ∃ (A : Option Addr) (c : Nat) (l : List α), cs = [.slice A l.length c] ∧ l.length ≤ c ∧ d.C w A l.length l := by
 rcases open_slice hts h with ⟨rfl, _⟩ | ⟨a, len, cap, m, n, D, Pl, rfl, _, hl, hm, hmm, hxe, hx⟩
 ·exact ⟨none, 0, [], rfl, Nat.le_refl _, rfl, by simp, fun h0 => absurd h0 (by simp)⟩
 ·have hmm' : m = cap := by simpa using hmm
  have hel : ∀ i, i < len → ∃ t : α, ∃ cs', w.cells? base (a.add (i * Tryz.prog.cellsOf te)) (Tryz.prog.cellsOf te) = some cs' ∧ d.K w t cs' := by
   intro i hi
   obtain ⟨cs', h1, h2⟩ := hx i (by omega)
   have hlt : SizeOf.sizeOf (D i) < SizeOf.sizeOf x.1 := by
    rw [hxe]
    have hmem : D i ∈ (List.range len).map D := List.mem_map.2 ⟨i, List.mem_range.2 hi, rfl⟩
    have := List.sizeOf_lt_of_mem hmem
    simp only [DataW.slice.sizeOf_spec]
    omega
   obtain ⟨t, ht⟩ := each n cs' _ hlt h2
   exact ⟨t, cs', h1, ht⟩
  obtain ⟨xs, hxl, hxs⟩ := choose_list hel
  refine ⟨some a, cap, xs, by rw [hxl], by omega, rfl, ?_, fun _ => ⟨a, rfl, fun j p hj => ?_⟩⟩
  ·have : maxLen = 9223372036854775807 := rfl
   omega
  ·obtain ⟨cs', h1, h2⟩ := hxs j p hj
   obtain ⟨_, hlen, hcell⟩ := World.cells?_some h1
   refine ⟨cs', d.K_len h2, h2, fun i u hu => ?_⟩
   have hi : i < cs'.length := (List.getElem?_eq_some_iff.1 hu).1
   have h3 := hcell i (by omega)
   rw [Go.Deep.add_add, hsz] at h3
   rw [h3]; exact hu
theorem open_srt {H : Type} {enc : TypeId × Value → H} {w : World} {base : Nat} {held : Bool} (N : Nat) : ∀ (fuel : Nat) (cs : List Value) (x : DataW H × List MemPlace), SizeOf.sizeOf x.1 ≤ N → DataW.trod enc Tryz.prog w base (fun _ => true) held fuel 47 cs = some x → ∃ t : S47, k47.K w t cs := by
 induction N with
 | zero =>
  intro fuel cs x hN
  have : 0 < SizeOf.sizeOf x.1 := by cases x.1 <;> simp <;> omega
  omega
 | succ N ih =>
  intro fuel cs x hN h
  obtain ⟨y0, n, rfl, hl, h0⟩ := trod_struct1 Tryz.underlying47 h
  have o0 : (Tryz.prog.cellsOf 43) = 1 := by kernel_rfl
  have o2 : (Tryz.prog.cellsOf 47) = 1 := by kernel_rfl
  rw [o2] at hl
  match cs, hl with
  | [c0], _ =>
   simp only [o0] at h0
   obtain ⟨A, c, l, e1, hlc, hC⟩ := open_kidsG (d := k47) Tryz.underlying43 (by kernel_rfl) h0 (fun fuel cs y hy hh => ih fuel cs y (by simp only [DataW.agg.sizeOf_spec, List.cons.sizeOf_spec, List.nil.sizeOf_spec] at hN; omega) hh)
   obtain rfl : c0 = .slice A l.length c := by simpa using e1
   exact ⟨⟨l⟩, Q.k47_mk w ⟨l⟩ hlc hC⟩
theorem open_trm {H : Type} {enc : TypeId × Value → H} {w : World} {base : Nat} {held : Bool} (N : Nat) : ∀ (fuel : Nat) (cs : List Value) (x : DataW H × List MemPlace), SizeOf.sizeOf x.1 ≤ N → DataW.trod enc Tryz.prog w base (fun _ => true) held fuel 50 cs = some x → ∃ t : S50, k50.K w t cs := by
 induction N with
 | zero =>
  intro fuel cs x hN
  have : 0 < SizeOf.sizeOf x.1 := by cases x.1 <;> simp <;> omega
  omega
 | succ N ih =>
  intro fuel cs x hN h
  obtain ⟨y0, y1, y2, n, rfl, hl, h0, h1, h2⟩ := trod_struct3 Tryz.underlying50 h
  have o0 : (Tryz.prog.cellsOf 3) = 1 := by kernel_rfl
  have o1 : (Tryz.prog.cellsOf 48) = 1 := by kernel_rfl
  have o2 : (Tryz.prog.cellsOf 50) = 3 := by kernel_rfl
  rw [o2] at hl
  match cs, hl with
  | [c0, c1, c2], _ =>
   simp only [o0, o1] at h0 h1 h2
   obtain ⟨s, e0, _, _⟩ := DataW.trod_int Tryz.underlying3 h0
   obtain ⟨t, e1, _, _⟩ := DataW.trod_int Tryz.underlying3 h1
   obtain ⟨A, c, l, e2, hlc, hC⟩ := open_kidsG (d := k50) Tryz.underlying48 (by kernel_rfl) h2 (fun fuel cs y hy hh => ih fuel cs y (by simp only [DataW.agg.sizeOf_spec, List.cons.sizeOf_spec, List.nil.sizeOf_spec] at hN; omega) hh)
   obtain rfl : c0 = .int .i64 s := by simpa using e0
   obtain rfl : c1 = .int .i64 t := by simpa using e1
   obtain rfl : c2 = .slice A l.length c := by simpa using e2
   exact ⟨⟨s, t, l⟩, Q.k50_mk w ⟨s, t, l⟩ hlc hC⟩
theorem opens_fun : Opens Tryz.prog 52 k52 (fun _ => True) := by
 intro H enc w base held fuel cs x h
 obtain ⟨y0, y1, y2, n, rfl, hl, h0, h1, h2⟩ := trod_struct3 Tryz.underlying52 h
 have o0 : (Tryz.prog.cellsOf 9) = 1 := by kernel_rfl
 have o1 : (Tryz.prog.cellsOf 47) = 1 := by kernel_rfl
 have o2 : (Tryz.prog.cellsOf 50) = 3 := by kernel_rfl
 have o3 : (Tryz.prog.cellsOf 52) = 5 := by kernel_rfl
 rw [o3] at hl
 match cs, hl with
 | [c0, c1, c2, c3, c4], _ =>
  simp only [o0, o1, o2] at h0 h1 h2
  obtain ⟨s, e0, _, _⟩ := DataW.trod_string Tryz.underlying9 h0
  obtain ⟨t, ht⟩ := open_srt _ _ _ _ (Nat.le_refl _) h1
  obtain ⟨u, hu⟩ := open_trm _ _ _ _ (Nat.le_refl _) h2
  obtain ⟨A1, d1, e1, l1, g1⟩ := Q.k47_open ht
  obtain ⟨A4, d4, e4, l4, g4⟩ := Q.k50_open hu
  have f0 : c0 = .string s := by simpa using e0
  have f1 : c1 = .slice A1 t.f0.length d1 := by simpa using e1
  have f4 : c2 = .int .i64 u.f0 ∧ c3 = .int .i64 u.f1 ∧ c4 = .slice A4 u.f2.length d4 := by simpa using e4
  obtain ⟨rfl, rfl, rfl⟩ := f4
  subst f0 f1
  exact ⟨⟨s, t, u⟩, Q.k52_mk w ⟨s, t, u⟩ l1 g1 l4 g4, trivial⟩
theorem opens_sym : Opens Tryz.prog 71 k71 (fun _ => True) := by
 intro H enc w base held fuel cs x h
 obtain ⟨y0, y1, n, rfl, hl, h0, h1⟩ := trod_struct2 Tryz.underlying71 h
 have o0 : (Tryz.prog.cellsOf 9) = 1 := by kernel_rfl
 have o1 : (Tryz.prog.cellsOf 3) = 1 := by kernel_rfl
 have o2 : (Tryz.prog.cellsOf 71) = 2 := by kernel_rfl
 rw [o2] at hl
 match cs, hl with
 | [c0, c1], _ =>
  simp only [o0, o1] at h0 h1
  obtain ⟨s, e0, _, _⟩ := DataW.trod_string Tryz.underlying9 h0
  obtain ⟨t, e1, _, _⟩ := DataW.trod_int Tryz.underlying3 h1
  obtain rfl : c0 = .string s := by simpa using e0
  obtain rfl : c1 = .int .i64 t := by simpa using e1
  exact ⟨⟨s, t⟩, Q.k71_mk w ⟨s, t⟩, trivial⟩
theorem arg_scheme {H : Type} {enc : TypeId × Value → H} {w : World} {base : Nat} {held : Bool} {v : Value} {d : DataW H} {p : List MemPlace} (hv : Value.okWide Tryz.prog w .any base 25 v) (h : DataW.Trod enc Tryz.prog w 0 (fun _ => true) held 25 v d p) :
  ∃ (sy : List S71) (fs : List S52) (A1 : Option Addr) (c1 : Nat) (A2 : Option Addr) (c2 : Nat), v = .agg #[.slice A1 sy.length c1, .slice A2 fs.length c2] ∧ sy.length ≤ c1 ∧ Kd.C k71 w A1 sy.length sy ∧ fs.length ≤ c2 ∧ Kd.C k52 w A2 fs.length fs := by
 obtain ⟨x0, y0, _, _, n0, rfl, _, _, a0, b0⟩ := Go.Joins.open_agg2 Tryz.underlying25 (by kernel_rfl) (by kernel_rfl) hv h
 obtain ⟨A1, c1, sy, rfl, hl1, hC1, _⟩ := open_row (d := k71) Tryz.underlying22 (by kernel_rfl) opens_sym a0
 obtain ⟨A2, c2, fs, rfl, hl2, hC2, _⟩ := open_row (d := k52) Tryz.underlying23 (by kernel_rfl) opens_fun b0
 exact ⟨sy, fs, A1, c1, A2, c2, rfl, hl1, hC1, hl2, hC2⟩
theorem own : ownKnob Tryz.prog.godebug = none := by kernel_rfl
theorem laidOut : laidOutB Tryz.prog = true := by kernel_rfl
abbrev laid7 : List (String × DataW Unit) := [("math/bits.deBruijn32tab", Rows.laid_math_bits_deBruijn32tab), ("math/bits.deBruijn64tab", Rows.laid_math_bits_deBruijn64tab), ("internal/strconv.uint64pow10", Rows.laid_internal_strconv_uint64pow10), ("unicode/utf8.acceptRanges", Rows.laid_unicode_utf8_acceptRanges), ("strconv.ErrRange", Rows.laid_strconv_ErrRange), ("strconv.ErrSyntax", Rows.laid_strconv_ErrSyntax), ("unicode/utf8.first", Rows.laid_unicode_utf8_first)]
theorem mx_of_shaped {w : World} (h : w.ShapedOpen Tryz.prog) : MX w :=
 Go.Proofs.cell_of_shapedOpen_int (g := 0) (t := 3) (zero := #[.int .i64 0]) h (l0_ (by kernel_rfl)) (by kernel_rfl) rfl (by kernel_rfl) (by kernel_rfl) Tryz.underlying3
theorem handed_and_shaped {H : Type} {enc : TypeId × Value → H} {a : Assume} {C : Checked} {os : Os} {f : FuncId} {fn : Func} {s : ChangeSpec} {conds : List PathCond} {apart fresh handsOn again : Bool} {X : World → Array Value → Prop}
  (hX : ∀ (w w' : World) (args : Array Value), w.heap = w'.heap → X w args → X w' args)
  (own : ownKnob C.prog.godebug = none) (started : os.Started) (noInit : C.prog.inits.idxOf? f = none) (hfn : C.prog.funcs[f]? = some fn)
  (witness : ∃ (w : World) (tape : Tape) (i : Input), w.os = os ∧ (w.forCall tape i).Shaped C.prog ∧ i.vars = [] ∧ Input.okWide C.prog (w.forCall tape i) .any w.heap.size f i ∧
   ((s.pre enc C.prog fn conds apart (w.forCall tape i).memory i.args ∧ X (w.forCall tape i).memory i.args) ∧ sizedMet enc C.prog fn (OpenSpec.ofChange s) apart (w.forCall tape i).memory i.args) ∧ a.holds C.prog (lone (Frame.enter C.prog f i.args .normal) [] (w.forCall tape i)))
  (contract : ∀ (W : World) (base : Nat) (args : Array Value) (ds gs : List (DataW H)) (before : List MemPlace),
   (∀ (j : Nat) t v, fn.params[j]? = some t → args[j]? = some v → Value.okWide C.prog W .any base t v) →
   DataW.Whole enc C.prog fn.params.toList s.vars apart W args.toList ds gs before →
   conds.all (PathCond.test C.prog ⟨fn.params.toList, ds, s.plain.varTypes C.prog, gs⟩) = true →
   X W args → W.ShapedOpen C.prog →
   Calls C.prog f args W fun e W' => ∃ v, e = .returned v ∧ s.post enc C.prog fn apart fresh handsOn again W args v W') :
  ReturnsInHanded a C os f .any (fun w args => (s.pre enc C.prog fn conds apart w args ∧ X w args) ∧ sizedMet enc C.prog fn (OpenSpec.ofChange s) apart w args) (s.post enc C.prog fn apart fresh handsOn again) := by
 refine returnsInHanded_of_calls own started noInit witness ?_
 intro w tape i _ hsh _ hok hpre hholds
 obtain ⟨_, _, _, fn', hfn', _, _, _, _, hval⟩ := hok
 have e : fn' = fn := l13_ (hfn'.symm.trans hfn)
 subst e
 obtain ⟨⟨⟨ds, gs, before, hw, hc⟩, hx⟩, hz⟩ := hpre
 have hw' := DataW.Whole.of_heap (w' := w.forCall tape i) (by rfl) hw
 refine (contract (w.forCall tape i) w.heap.size i.args ds gs before hval hw' hc (hX _ _ _ (by rfl) hx) hsh).mono fun e W' ⟨v, he, hp⟩ => ?_
 subst he
 exact ChangeSpec.post_blind hp
end Go.Proofs.YthflpbgloeimfaaGreatDoor.H
