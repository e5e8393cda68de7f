/- Hops, marks, and who is refused: the program and the document tell the same. -/
import Derived.Test.YtacjnapgdikhbaaGreatDoorAF
import Derived.Test.YtacjnapgdikhbaaGreatDoorQx9
import Derived.Test.YtacjnapgdikhbaaGreatDoorQx13
import Derived.Test.YtacjnapgdikhbaaGreatDoorQx18
import Derived.Test.YtacjnapgdikhbaaGreatDoorQx0
namespace Go.Proofs.YtacjnapgdikhbaaGreatDoor.S
open Go.RowKit Go.Proofs.YtacjnapgdikhbaaGreatDoor.Q Go.Proofs.YtacjnapgdikhbaaGreatDoorW.PrintWords Go.Proofs.YtacjnapgdikhbaaGreatDoorW.PrintLast Go.Proofs.YtacjnapgdikhbaaGreatDoorW.PrintMore
set_option linter.unusedVariables false
set_option linter.unusedSimpArgs false
def cvF (x : S72) : S79 := ⟨x.f0, x.f1, x.f2⟩
def cvA (x : S50) : S46 := ⟨x.f0, x.f1⟩
def cvX (x : S52) : S48 := ⟨cvA x.f0, x.f1, x.f2⟩
theorem bq (x y : ByteArray) : (x.toList == y.toList) = decide (x = y) := by
 rw [Bool.eq_iff_iff, beq_iff_eq, toL, toL, decide_eq_true_iff]
 exact ⟨L_inj, fun h => by rw [h]⟩
instance : DecidableEq S50 := fun x y => decidable_of_iff (x.f0 = y.f0 ∧ x.f1 = y.f1) (by
 obtain ⟨x0, x1⟩ := x
 obtain ⟨y0, y1⟩ := y
 simp)
theorem rd72 (l : List S72) (j : Nat) (h : j < l.length) : rd_T72 l (j : Int) = l[j]'h := by
 unfold rd_T72
 rw [Int.toNat_natCast, List.getD_eq_getElem?_getD, List.getElem?_eq_getElem h]; rfl
theorem rd79 (l : List S79) (j : Nat) (h : j < l.length) : rd_T79 l (j : Int) = l[j]'h := by
 unfold rd_T79
 rw [Int.toNat_natCast, List.getD_eq_getElem?_getD, List.getElem?_eq_getElem h]; rfl
theorem rd50 (l : List S50) (j : Nat) (h : j < l.length) : rd_T50 l (j : Int) = l[j]'h := by
 unfold rd_T50
 rw [Int.toNat_natCast, List.getD_eq_getElem?_getD, List.getElem?_eq_getElem h]; rfl
theorem rd46 (l : List S46) (j : Nat) (h : j < l.length) : rd_T46 l (j : Int) = l[j]'h := by
 unfold rd_T46
 rw [Int.toNat_natCast, List.getD_eq_getElem?_getD, List.getElem?_eq_getElem h]; rfl
theorem rd52 (l : List S52) (j : Nat) (h : j < l.length) : rd_T52 l (j : Int) = l[j]'h := by
 unfold rd_T52
 rw [Int.toNat_natCast, List.getD_eq_getElem?_getD, List.getElem?_eq_getElem h]; rfl
theorem rd48 (l : List S48) (j : Nat) (h : j < l.length) : rd_T48 l (j : Int) = l[j]'h := by
 unfold rd_T48
 rw [Int.toNat_natCast, List.getD_eq_getElem?_getD, List.getElem?_eq_getElem h]; rfl
theorem rdB (l : List ByteArray) (j : Nat) (h : j < l.length) : rdOf ByteArray.empty l (j : Int) = l[j]'h := by simp [rdOf, h]
def cutF (x : S72) : S72 := ⟨B ((L x.f0).take 600), B ((L x.f1).take 600), B ((L x.f2).take 600)⟩
def cutA (x : S50) : S50 := ⟨B ((L x.f0).take 100), B ((L x.f1).take 100)⟩
theorem few_l0 {l : List S72} (hl : l.length ≤ 9223372036854775807) {b ob : ByteArray} {e oe : Bool} : ∀ (d j : Nat), j + d = min 15 l.length → Ev (fun k => postriderlaw18_Few.l0 k (j : Int) l b e ((l.take j).map cutF) ob oe) ((l.take 15).map cutF, ob, oe) := by
 intro d
 induction d with
 | zero =>
  intro j h
  have e1 : l.take j = l.take 15 := by rw [List.take_eq_take_iff]; omega
  refine Ev.eq (f := fun _ => some _) (fun k => ?_) (Ev.pure _)
  simp only [postriderlaw18_Few.l0]
  by_cases h1 : j < l.length
  ·rw [if_pos (by omega), if_neg (by omega), e1]
  ·rw [if_neg (by omega), e1]
 | succ d ih =>
  intro j h
  have hj : j < l.length := by omega
  have ew : wrap64 ((j : Int) + 1) = ((j + 1 : Nat) : Int) := by unfold wrap64; omega
  have m0 := mn_le ((l[j]'hj).f0.size : Int) 600
  have m1 := mn_le ((l[j]'hj).f1.size : Int) 600
  have m2 := mn_le ((l[j]'hj).f2.size : Int) 600
  refine Ev.eq (f := fun k => postriderlaw18_Few.l0 k ((j + 1 : Nat) : Int) l b e ((l.take (j + 1)).map cutF) ob oe) (fun k => ?_) (ih (j + 1) (by omega))
  simp only [postriderlaw18_Few.l0]
  rw [if_pos (by omega), if_pos (by omega), if_pos (by omega), rd72 l j hj, ew, if_pos (by omega), if_pos (by omega), if_pos (by omega), if_pos (by omega), if_pos (by omega), if_pos (by omega), if_pos (by rw [List.length_map, List.length_take]; omega)]
  congr 1
  rw [List.take_succ_eq_append_getElem hj, List.map_append]
  congr 1
  simp only [List.map_cons, List.map_nil, cutF]
  rw [show ((600 : Int)) = ((600 : Nat) : Int) from rfl, firsts, firsts, firsts]
theorem few_f {l : List S72} (hl : l.length ≤ 9223372036854775807) (b : ByteArray) (e : Bool) : Ev (fun k => postriderlaw18_Few.f k l b e) ((l.take 15).map cutF, B ((L b).take 1000), e) := by
 have m0 := mn_le (b.size : Int) 1000
 unfold postriderlaw18_Few.f
 have k1 : 0 ≤ mn (b.size : Int) 1000 := by omega
 have k2 : mn (b.size : Int) 1000 ≤ (b.size : Int) := by omega
 simp only [if_pos k1, if_pos k2]
 rw [show ((1000 : Int)) = ((1000 : Nat) : Int) from rfl, firsts]
 exact few_l0 hl (min 15 l.length) 0 (by omega)
theorem short_l0 {l : List S50} (hl : l.length ≤ 9223372036854775807) : ∀ (d j : Nat), j + d = min 20 l.length → Ev (fun k => postriderlaw22_short.l0 k l ((l.take j).map cutA) (j : Int)) ((l.take 20).map cutA) := by
 intro d
 induction d with
 | zero =>
  intro j h
  have e1 : l.take j = l.take 20 := by rw [List.take_eq_take_iff]; omega
  refine Ev.eq (f := fun _ => some _) (fun k => ?_) (Ev.pure _)
  simp only [postriderlaw22_short.l0]
  by_cases h1 : j < l.length
  ·rw [if_pos (by omega), if_neg (by omega), e1]
  ·rw [if_neg (by omega), e1]
 | succ d ih =>
  intro j h
  have hj : j < l.length := by omega
  have ew : wrap64 ((j : Int) + 1) = ((j + 1 : Nat) : Int) := by unfold wrap64; omega
  have m0 := mn_le ((l[j]'hj).f0.size : Int) 100
  have m1 := mn_le ((l[j]'hj).f1.size : Int) 100
  refine Ev.eq (f := fun k => postriderlaw22_short.l0 k l ((l.take (j + 1)).map cutA) ((j + 1 : Nat) : Int)) (fun k => ?_) (ih (j + 1) (by omega))
  simp only [postriderlaw22_short.l0]
  rw [if_pos (by omega), if_pos (by omega), if_pos (by omega), rd50 l j hj, ew, if_pos (by omega), if_pos (by omega), if_pos (by omega), if_pos (by omega), if_pos (by rw [List.length_map, List.length_take]; omega)]
  congr 1
  rw [List.take_succ_eq_append_getElem hj, List.map_append]
  congr 1
  simp only [List.map_cons, List.map_nil, cutA]
  rw [show ((100 : Int)) = ((100 : Nat) : Int) from rfl, firsts, firsts]
theorem short_f {l : List S50} (hl : l.length ≤ 9223372036854775807) : Ev (fun k => postriderlaw22_short.f k l) ((l.take 20).map cutA) := short_l0 hl (min 20 l.length) 0 (by omega)
theorem ofM_l0 {l : List S72} (hl : l.length ≤ 1000000) {b ob : ByteArray} {e oe : Bool} : ∀ (d j : Nat), j + d = l.length → Ev (fun k => postriderlaw18_Of.l0 k (j : Int) l b e ((l.take j).map cvF) ob oe) (l.map cvF, ob, oe) := by
 intro d
 induction d with
 | zero =>
  intro j h
  refine Ev.eq (f := fun _ => some _) (fun k => ?_) (Ev.pure _)
  simp only [postriderlaw18_Of.l0]
  rw [if_neg (by omega), List.take_of_length_le (by omega)]
 | succ d ih =>
  intro j h
  have hj : j < l.length := by omega
  have ew := w1 (n := j) (m := l.length) hj (by omega)
  refine Ev.eq (f := fun k => postriderlaw18_Of.l0 k ((j + 1 : Nat) : Int) l b e ((l.take (j + 1)).map cvF) ob oe) (fun k => ?_) (ih (j + 1) (by omega))
  simp only [postriderlaw18_Of.l0]
  rw [if_pos (by omega), if_pos (by omega), if_pos (by rw [List.length_map, List.length_take]; omega), rd72 l j hj, ew]
  congr 1
  rw [List.take_succ_eq_append_getElem hj, List.map_append]
  rfl
theorem ofM_f {l : List S72} (hl : l.length ≤ 1000000) (b : ByteArray) (e : Bool) : Ev (fun k => postriderlaw18_Of.f k l b e) (l.map cvF, b, e) := ofM_l0 hl l.length 0 (by omega)
theorem ofA_l0 {l : List S50} (hl : l.length ≤ 1000000) : ∀ (d j : Nat), j + d = l.length → Ev (fun k => postriderlaw22_of.l0 k l ((l.take j).map cvA) (j : Int)) (l.map cvA) := by
 intro d
 induction d with
 | zero =>
  intro j h
  refine Ev.eq (f := fun _ => some _) (fun k => ?_) (Ev.pure _)
  simp only [postriderlaw22_of.l0]
  rw [if_neg (by omega), List.take_of_length_le (by omega)]
 | succ d ih =>
  intro j h
  have hj : j < l.length := by omega
  have ew := w1 (n := j) (m := l.length) hj (by omega)
  refine Ev.eq (f := fun k => postriderlaw22_of.l0 k l ((l.take (j + 1)).map cvA) ((j + 1 : Nat) : Int)) (fun k => ?_) (ih (j + 1) (by omega))
  simp only [postriderlaw22_of.l0]
  rw [if_pos (by omega), if_pos (by omega), if_pos (by rw [List.length_map, List.length_take]; omega), rd50 l j hj, ew]
  congr 1
  rw [List.take_succ_eq_append_getElem hj, List.map_append]
  rfl
theorem ofA_f {l : List S50} (hl : l.length ≤ 1000000) : Ev (fun k => postriderlaw22_of.f k l) (l.map cvA) := ofA_l0 hl l.length 0 (by omega)
theorem same_l0 {l : List S50} (hl : l.length ≤ 1000000) : ∀ (d j : Nat), j + d = l.length → Ev (fun k => postriderlaw22_same.l0 k l (l.map cvA) (j : Int)) true := by
 intro d
 induction d with
 | zero =>
  intro j h
  refine Ev.eq (f := fun _ => some _) (fun k => ?_) (Ev.pure _)
  simp only [postriderlaw22_same.l0]
  rw [if_neg (by omega)]
 | succ d ih =>
  intro j h
  have hj : j < l.length := by omega
  have ew := w1 (n := j) (m := l.length) hj (by omega)
  refine Ev.eq (f := fun k => postriderlaw22_same.l0 k l (l.map cvA) ((j + 1 : Nat) : Int)) (fun k => ?_) (ih (j + 1) (by omega))
  simp only [postriderlaw22_same.l0]
  rw [if_pos (by omega), if_pos (by omega), if_pos (by rw [List.length_map]; omega), rd50 l j hj, rd46 _ j (by rw [List.length_map]; omega), List.getElem_map, ew, if_neg]
  simp [cvA]
theorem sameA_f {l : List S50} (hl : l.length ≤ 1000000) : Ev (fun k => postriderlaw22_same.f k l (l.map cvA)) true := by
 unfold postriderlaw22_same.f
 refine Ev.cong (fun k => if_pos (by rw [List.length_map])) ?_
 exact same_l0 hl l.length 0 (by omega)
theorem low_L (s : ByteArray) : lowerB s = B ((L s).map lowC) := rfl
theorem sel_take (l : List S72) (nm : ByteArray) (j : Nat) (h : j < l.length) : headSel (l.take (j + 1)) nm = headSel (l.take j) nm ++ (if lowerB (l[j]'h).f0 = lowerB nm then [(l[j]'h).f1] else []) := by
 unfold headSel
 rw [List.take_succ_eq_append_getElem h, List.filter_append, List.map_append]
 congr 1
 by_cases e : lowerB (l[j]'h).f0 = lowerB nm <;> simp [List.filter_cons, e]
theorem ref_find_l0 {l : List S72} {b nm : ByteArray} {e : Bool} (hl : l.length ≤ 1000000) (hn : nm.size ≤ 1000000) (hf : ∀ x ∈ l, x.f0.size ≤ 1000000) : ∀ (d j : Nat), j + d = l.length → Ev (fun k => postriderref07_Find.l0 k nm (headSel (l.take j) nm) (j : Int) (l.map cvF) b e) (headSel l nm) := by
 intro d
 induction d with
 | zero =>
  intro j h
  refine Ev.eq (f := fun _ => some _) (fun k => ?_) (Ev.pure _)
  simp only [postriderref07_Find.l0]
  rw [if_neg (by rw [List.length_map]; omega), List.take_of_length_le (by omega)]
 | succ d ih =>
  intro j h
  have hj : j < l.length := by omega
  have ew := w1 (n := j) (m := l.length) hj (by omega)
  have hr : rd_T79 (l.map cvF) (j : Int) = cvF (l[j]'hj) := by
   rw [rd79 _ j (by rw [List.length_map]; omega), List.getElem_map]
  have hs := sel_take l nm j hj
  have hlen : (headSel (l.take j) nm).length ≤ 1000000 := by
   unfold headSel
   rw [List.length_map]
   exact Nat.le_trans (List.length_filter_le _ _) (by rw [List.length_take]; omega)
  refine Ev.eq (f := fun k => (postriderref04_Lower.f k ((cvF (l[j]'hj)).f0)).bind fun t267 => ((postriderref04_Lower.f k nm).bind fun t268 => (if t267.toList = t268.toList then (if (headSel (l.take j) nm).length < 8796093022208 then (postriderref07_Find.l0 k nm ((headSel (l.take j) nm) ++ [(cvF (l[j]'hj)).f1]) (wrap64 ((j : Int) + 1)) (l.map cvF) b e) else (none)) else (postriderref07_Find.l0 k nm (headSel (l.take j) nm) (wrap64 ((j : Int) + 1)) (l.map cvF) b e)))) (fun k => ?_) ?_
  ·simp only [postriderref07_Find.l0]
   rw [if_pos (by rw [List.length_map]; omega), if_pos (by omega), hr]
  ·have h0 : (cvF (l[j]'hj)).f0 = (l[j]'hj).f0 := rfl
   have h1 : (cvF (l[j]'hj)).f1 = (l[j]'hj).f1 := rfl
   rw [h0, h1]
   refine Ev.bind2 (ref_lower_f (by have := hf _ (List.getElem_mem hj); omega)) (Ev.bind2 (ref_lower_f (by omega)) ?_)
   have key := ih (j + 1) (by omega)
   rw [hs] at key
   rw [← low_L, ← low_L]
   by_cases e1 : lowerB (l[j]'hj).f0 = lowerB nm
   ·have e2 : (lowerB (l[j]'hj).f0).toList = (lowerB nm).toList := by rw [e1]
    simp only [if_pos e2]
    rw [if_pos e1] at key
    have e3 : (headSel (l.take j) nm).length < 8796093022208 := by omega
    simp only [if_pos e3]
    rw [ew]
    exact key
   ·have e2 : ¬ (lowerB (l[j]'hj).f0).toList = (lowerB nm).toList := fun x => e1 (by rw [toL, toL] at x; exact L_inj x)
    simp only [if_neg e2]
    rw [if_neg e1, List.append_nil] at key
    rw [ew]
    exact key
theorem ref_find_f {l : List S72} {b nm : ByteArray} {e : Bool} (hl : l.length ≤ 1000000) (hn : nm.size ≤ 1000000) (hf : ∀ x ∈ l, x.f0.size ≤ 1000000) : Ev (fun k => postriderref07_Find.f k (l.map cvF) b e nm) (headSel l nm) := ref_find_l0 hl hn hf l.length 0 (by omega)
theorem sel_low (l : List S72) {a b : ByteArray} (h : lowerB a = lowerB b) : headSel l a = headSel l b := by
 unfold headSel; rw [h]
def nmDel : ByteArray := ⟨#[68, 101, 108, 105, 118, 101, 114, 101, 100, 45, 84, 111]⟩
def nmRec : ByteArray := ⟨#[82, 101, 99, 101, 105, 118, 101, 100]⟩
theorem del_low : lowerB (⟨#[100, 101, 108, 105, 118, 101, 114, 101, 100, 45, 116, 111]⟩ : ByteArray) = lowerB nmDel := by decide
theorem rec_low : lowerB (⟨#[114, 101, 99, 101, 105, 118, 101, 100]⟩ : ByteArray) = lowerB nmRec := by decide
def noS (a : List UInt8 × List UInt8) : S50 := ⟨B (noL a).1, B (noL a).2⟩
def mark1 (v : ByteArray) : List S50 := if (paL (L v)).2.2 = 0 then [noS ((paL (L v)).1, (paL (L v)).2.1)] else []
def marksOf (vs : List ByteArray) : List S50 := vs.flatMap mark1
theorem mark1_len (v : ByteArray) : (mark1 v).length ≤ 1 := by unfold mark1; split <;> simp
theorem marks_len : ∀ vs : List ByteArray, (marksOf vs).length ≤ vs.length
 | [] => by simp [marksOf]
 | v :: t => by
  have := marks_len t
  have := mark1_len v
  show (mark1 v ++ marksOf t).length ≤ _
  rw [List.length_append, List.length_cons]; omega
theorem qdL1_le (l : List UInt8) : (lcL l).1.length ≤ l.length := by
 unfold lcL
 split
 ·exact (qd_le l).2.1
 ·exact (List.takeWhile_prefix _).length_le
theorem pa_small (l : List UInt8) : (paL l).1.length ≤ l.length ∧ (paL l).2.1.length ≤ l.length := by
 have h1 := qdL1_le l
 unfold paL
 split
 ·split
  ·simp
  ·split
   ·refine ⟨h1, ?_⟩
    simp only [List.length_tail, List.length_drop]; omega
   ·simp
 ·simp
theorem mk_l0 {vs : List ByteArray} (hv : vs.length ≤ 1000000) (hs : ∀ v ∈ vs, v.size ≤ 1000000) : ∀ (d j : Nat) (acc : List S50), j + d = vs.length → acc.length ≤ j → Ev (fun k => guard_Marks.l0 k acc vs (vs.length : Int) (j : Int)) (acc ++ marksOf (vs.drop j)) := by
 intro d
 induction d with
 | zero =>
  intro j acc h _
  rw [List.drop_of_length_le (by omega)]
  refine Ev.eq (f := fun _ => some _) (fun k => ?_) (Ev.pure _)
  simp only [guard_Marks.l0]
  rw [if_neg (by omega)]
  simp [marksOf]
 | succ d ih =>
  intro j acc h ha
  have hj : j < vs.length := by omega
  have ew := w1 (n := j) (m := vs.length) hj (by omega)
  have hsz := hs _ (List.getElem_mem hj)
  have hl := L_len (vs[j]'hj)
  obtain ⟨p1, p2⟩ := pa_small (L (vs[j]'hj))
  rw [List.drop_eq_getElem_cons hj]
  refine Ev.eq (f := fun k => (addr_Parse.f k (vs[j]'hj)).bind fun bt185 => (if bt185.2.2 = 0 then ((addr_Normal.f bt185.1 bt185.2.1).bind fun bt189 => (if acc.length < 4398046511104 then (guard_Marks.l0 k (acc ++ [(⟨bt189.1, bt189.2⟩ : S50)]) vs (vs.length : Int) ((j + 1 : Nat) : Int)) else (none))) else (guard_Marks.l0 k acc vs (vs.length : Int) ((j + 1 : Nat) : Int)))) (fun k => ?_) ?_
  ·simp only [guard_Marks.l0]
   rw [if_pos (by omega), if_pos (by omega), if_pos (by omega), rdB vs j hj, ew]
  ·refine Ev.bind2 (parse_f hsz) ?_
   show Ev _ (acc ++ (mark1 (vs[j]'hj) ++ marksOf (vs.drop (j + 1))))
   unfold mark1
   by_cases h0 : (paL (L (vs[j]'hj))).2.2 = 0
   ·rw [if_pos h0]
    refine Ev.cong (fun k => if_pos (by simp only; omega)) ?_
    refine Ev.bindc (normal_f (by rw [B_size]; omega) (by rw [B_size]; omega)) ?_
    refine Ev.cong (fun k => if_pos (by omega)) ?_
    have := ih (j + 1) (acc ++ [noS ((paL (L (vs[j]'hj))).1, (paL (L (vs[j]'hj))).2.1)]) (by omega) (by rw [List.length_append, List.length_singleton]; omega)
    rw [List.append_assoc] at this
    simp only [L_B]
    exact this
   ·rw [if_neg h0]
    refine Ev.cong (fun k => if_neg (by simp only; omega)) ?_
    exact ih (j + 1) acc (by omega) (by omega)
theorem selOk {l : List S72} {nm : ByteArray} (hl : l.length ≤ 1000000) (hn : nm.size ≤ 1000000) (hf : ∀ x ∈ l, x.f0.size ≤ 1000000) : headSelOk l nm := ⟨fun x hx => by have := hf x hx; omega, by omega, by omega⟩
theorem sel_len (l : List S72) (nm : ByteArray) : (headSel l nm).length ≤ l.length := by
 unfold headSel
 rw [List.length_map]
 exact List.length_filter_le _ _
theorem sel_small {l : List S72} {nm : ByteArray} {n : Nat} (hf : ∀ x ∈ l, x.f1.size ≤ n) : ∀ v ∈ headSel l nm, v.size ≤ n := by
 intro v hv
 unfold headSel at hv
 obtain ⟨x, hx, rfl⟩ := List.mem_map.1 hv
 exact hf x (List.mem_filter.1 hx).1
theorem marks_f {l : List S72} (hl : l.length ≤ 1000000) (h0 : ∀ x ∈ l, x.f0.size ≤ 1000000) (h1 : ∀ x ∈ l, x.f1.size ≤ 1000000) (b : ByteArray) (e : Bool) : Ev (fun k => guard_Marks.f k l b e) (marksOf (headSel l nmDel)) := by
 unfold guard_Marks.f
 have hq : head_Message_Find.f l b e nmDel = some (headSel l nmDel) := by
  unfold head_Message_Find.f
  rw [if_pos (selOk hl (by decide) h0)]
 refine Ev.bindc hq ?_
 have hc := sel_len l nmDel
 have := mk_l0 (vs := headSel l nmDel) (by omega) (sel_small h1) (headSel l nmDel).length 0 [] (by omega) (by simp)
 rw [List.drop_zero, List.nil_append] at this
 exact this
theorem hops_f {l : List S72} (hl : l.length ≤ 1000000) (h0 : ∀ x ∈ l, x.f0.size ≤ 1000000) (b : ByteArray) (e : Bool) : guard_Hops.f l b e = some ((headSel l nmRec).length : Int) := by
 unfold guard_Hops.f
 have hq : head_Message_Count.f l b e nmRec = some ((headSel l nmRec).length : Int) := by
  unfold head_Message_Count.f
  rw [if_pos (selOk hl (by decide) h0)]
 show (head_Message_Count.f l b e nmRec).bind _ = _
 rw [hq]; rfl
theorem rmk_l0 {vs : List ByteArray} (hv : vs.length ≤ 1000000) (hs : ∀ v ∈ vs, v.size ≤ 1000000) : ∀ (d j : Nat) (acc : List S50), j + d = vs.length → acc.length ≤ j → Ev (fun k => postriderref22_Marks.l0 k (acc.map cvA) vs (j : Int)) ((acc ++ marksOf (vs.drop j)).map cvA) := by
 intro d
 induction d with
 | zero =>
  intro j acc h _
  rw [List.drop_of_length_le (by omega)]
  refine Ev.eq (f := fun _ => some _) (fun k => ?_) (Ev.pure _)
  simp only [postriderref22_Marks.l0]
  rw [if_neg (by omega)]
  simp [marksOf]
 | succ d ih =>
  intro j acc h ha
  have hj : j < vs.length := by omega
  have ew := w1 (n := j) (m := vs.length) hj (by omega)
  have hsz := hs _ (List.getElem_mem hj)
  have hl := L_len (vs[j]'hj)
  obtain ⟨p1, p2⟩ := pa_small (L (vs[j]'hj))
  rw [List.drop_eq_getElem_cons hj]
  refine Ev.eq (f := fun k => (postriderref05_Parse.f k (vs[j]'hj)).bind fun bt271 => (if bt271.2.2 = 0 then ((postriderref05_Normal.f k bt271.1 bt271.2.1).bind fun bt275 => (if (acc.map cvA).length < 4398046511104 then (postriderref22_Marks.l0 k ((acc.map cvA) ++ [(⟨bt275.1, bt275.2⟩ : S46)]) vs ((j + 1 : Nat) : Int)) else (none))) else (postriderref22_Marks.l0 k (acc.map cvA) vs ((j + 1 : Nat) : Int)))) (fun k => ?_) ?_
  ·simp only [postriderref22_Marks.l0]
   rw [if_pos (by omega), if_pos (by omega), rdB vs j hj, ew]
  ·refine Ev.bind2 (ref_parse_f hsz) ?_
   show Ev _ ((acc ++ (mark1 (vs[j]'hj) ++ marksOf (vs.drop (j + 1)))).map cvA)
   unfold mark1
   by_cases h0 : (paL (L (vs[j]'hj))).2.2 = 0
   ·rw [if_pos h0]
    refine Ev.cong (fun k => if_pos (by simp only; omega)) ?_
    refine Ev.bind2 (ref_normal_f (by rw [B_size]; omega) (by rw [B_size]; omega)) ?_
    refine Ev.cong (fun k => if_pos (by rw [List.length_map]; omega)) ?_
    have := ih (j + 1) (acc ++ [noS ((paL (L (vs[j]'hj))).1, (paL (L (vs[j]'hj))).2.1)]) (by omega) (by rw [List.length_append, List.length_singleton]; omega)
    rw [List.append_assoc, List.map_append (l₁ := acc) (l₂ := [noS _])] at this
    simp only [L_B]
    exact this
   ·rw [if_neg h0]
    refine Ev.cong (fun k => if_neg (by simp only; omega)) ?_
    exact ih (j + 1) acc (by omega) (by omega)
theorem ref_marks_f {l : List S72} (hl : l.length ≤ 1000000) (h0 : ∀ x ∈ l, x.f0.size ≤ 1000000) (h1 : ∀ x ∈ l, x.f1.size ≤ 1000000) (b : ByteArray) (e : Bool) : Ev (fun k => postriderref22_Marks.f k (l.map cvF) b e) ((marksOf (headSel l nmDel)).map cvA) := by
 unfold postriderref22_Marks.f
 have hq := ref_find_f (b := b) (e := e) (nm := ⟨#[100, 101, 108, 105, 118, 101, 114, 101, 100, 45, 116, 111]⟩) hl (by decide) h0
 rw [sel_low l del_low] at hq
 refine Ev.bind2 hq ?_
 have hc := sel_len l nmDel
 have := rmk_l0 (vs := headSel l nmDel) (by omega) (sel_small h1) (headSel l nmDel).length 0 [] (by omega) (by simp)
 rw [List.drop_zero, List.nil_append] at this
 exact this
theorem ref_hops_f {l : List S72} (hl : l.length ≤ 1000000) (h0 : ∀ x ∈ l, x.f0.size ≤ 1000000) (b : ByteArray) (e : Bool) : Ev (fun k => postriderref22_Hops.f k (l.map cvF) b e) ((headSel l nmRec).length : Int) := by
 unfold postriderref22_Hops.f
 have hq := ref_find_f (b := b) (e := e) (nm := ⟨#[114, 101, 99, 101, 105, 118, 101, 100]⟩) hl (by decide) h0
 rw [sel_low l rec_low] at hq
 exact Ev.bind2 hq (Ev.pure _)
def far : ByteArray := ⟨#[116, 111, 111, 32, 109, 97, 110, 121, 32, 104, 111, 112, 115]⟩
def loopT : ByteArray := ⟨#[109, 97, 105, 108, 32, 108, 111, 111, 112]⟩
def chk (hops : Int) (marks : List S50) (a : S50) : ByteArray := if hops > 25 then far else if noS (L a.f0, L a.f1) ∈ marks then loopT else ⟨#[]⟩
def passOf (hops : Int) (marks : List S50) (rc : List S50) : List S50 := rc.filter fun a => decide (chk hops marks a = ⟨#[]⟩)
def failOf (hops : Int) (marks : List S50) (rc : List S50) : List S52 := (rc.filter fun a => !decide (chk hops marks a = ⟨#[]⟩)).map fun a => ⟨a, 554, chk hops marks a⟩
theorem idx_l0 {ms : List S50} (hm : ms.length ≤ 1000000) (n : S50) : ∀ (d j : Nat), j + d = ms.length → ∃ v : Int, Ev (fun k => slices_Index_api_Addr_api_Addr.l0 k ms (ms.length : Int) (j : Int) n.f0 n.f1) v ∧ decide (v ≥ 0) = decide (n ∈ ms.drop j) := by
 intro d
 induction d with
 | zero =>
  intro j h
  refine ⟨-1, Ev.eq (f := fun _ => some _) (fun k => by simp only [slices_Index_api_Addr_api_Addr.l0]; rw [if_neg (by omega)]) (Ev.pure _), ?_⟩
  rw [List.drop_of_length_le (by omega)]; simp
 | succ d ih =>
  intro j h
  have hj : j < ms.length := by omega
  have ew := w1 (n := j) (m := ms.length) hj (by omega)
  rw [List.drop_eq_getElem_cons hj]
  have hb : (n.f0.toList == ((ms[j]'hj).f0).toList && (n.f1.toList == ((ms[j]'hj).f1).toList)) = decide (n = ms[j]'hj) := by
   rw [bq, bq]
   obtain ⟨x0, x1⟩ := n
   obtain ⟨y0, y1⟩ := ms[j]'hj
   rw [Bool.eq_iff_iff]; simp
  by_cases e : n = ms[j]'hj
  ·refine ⟨(j : Int), Ev.eq (f := fun _ => some _) (fun k => ?_) (Ev.pure _), ?_⟩
   ·simp only [slices_Index_api_Addr_api_Addr.l0]
    rw [if_pos (by omega), if_pos (by omega), if_pos (by omega), rd50 ms j hj, hb, if_pos (decide_eq_true e)]
   ·rw [decide_eq_true (by omega : (j : Int) ≥ 0), decide_eq_true (by rw [e]; exact List.mem_cons_self)]
  ·obtain ⟨v, h1, h2⟩ := ih (j + 1) (by omega)
   refine ⟨v, Ev.eq (f := fun k => slices_Index_api_Addr_api_Addr.l0 k ms (ms.length : Int) ((j + 1 : Nat) : Int) n.f0 n.f1) (fun k => ?_) h1, ?_⟩
   ·simp only [slices_Index_api_Addr_api_Addr.l0]
    rw [if_pos (by omega), if_pos (by omega), if_pos (by omega), rd50 ms j hj, hb, if_neg (by simp [e]), ew]
   ·rw [h2]
    exact decide_eq_decide.mpr ⟨fun h => List.mem_cons_of_mem _ h, fun h => (List.mem_cons.1 h).resolve_left e⟩
theorem has_f {ms : List S50} (hm : ms.length ≤ 1000000) (n : S50) : Ev (fun k => slices_Contains_api_Addr_api_Addr.f k ms n.f0 n.f1) (decide (n ∈ ms)) := by
 obtain ⟨v, h1, h2⟩ := idx_l0 hm n ms.length 0 (by omega)
 rw [List.drop_zero] at h2
 unfold slices_Contains_api_Addr_api_Addr.f slices_Index_api_Addr_api_Addr.f
 rw [← h2]
 exact Ev.bind2 h1 (Ev.pure _)
theorem chk_f {ms : List S50} (hm : ms.length ≤ 1000000) (hops : Int) {a : S50} (h0 : a.f0.size ≤ 1000000) (h1 : a.f1.size ≤ 1000000) : Ev (fun k => guard_Check_1.f k a.f0 a.f1 hops ms) (chk hops ms a) := by
 unfold guard_Check_1.f chk
 by_cases h : hops > 25
 ·refine Ev.cong (fun k => if_pos h) ?_
  rw [if_pos h]; exact Ev.pure _
 ·refine Ev.cong (fun k => if_neg h) ?_
  rw [if_neg h]
  refine Ev.bindc (normal_f h0 h1) ?_
  refine Ev.bind2 (has_f hm (noS (L a.f0, L a.f1))) ?_
  by_cases e : noS (L a.f0, L a.f1) ∈ ms
  ·refine Ev.cong (fun k => if_pos (decide_eq_true e)) ?_
   rw [if_pos e]; exact Ev.pure _
  ·refine Ev.cong (fun k => if_neg (by simp [e])) ?_
   rw [if_neg e]; exact Ev.pure _
theorem pass_cons (hops : Int) (ms : List S50) (a : S50) (t : List S50) : passOf hops ms (a :: t) = (if chk hops ms a = ⟨#[]⟩ then [a] else []) ++ passOf hops ms t := by
 unfold passOf
 rw [List.filter_cons]
 by_cases h : chk hops ms a = ⟨#[]⟩ <;> simp [h]
theorem fail_cons (hops : Int) (ms : List S50) (a : S50) (t : List S50) : failOf hops ms (a :: t) = (if chk hops ms a = ⟨#[]⟩ then [] else [⟨a, 554, chk hops ms a⟩]) ++ failOf hops ms t := by
 unfold failOf
 rw [List.filter_cons]
 by_cases h : chk hops ms a = ⟨#[]⟩ <;> simp [h]
theorem chk_l0 {rc ms : List S50} (ht : rc.length ≤ 1000000) (hm : ms.length ≤ 1000000) (hs : ∀ a ∈ rc, a.f0.size ≤ 1000000 ∧ a.f1.size ≤ 1000000) (hops : Int) : ∀ (d j : Nat) (p : List S50) (x : List S52), j + d = rc.length → p.length ≤ j → x.length ≤ j →
  Ev (fun k => guard_Check.l0 k p x rc (rc.length : Int) (j : Int) ms hops) (p ++ passOf hops ms (rc.drop j), x ++ failOf hops ms (rc.drop j)) := by
 intro d
 induction d with
 | zero =>
  intro j p x h _ _
  rw [List.drop_of_length_le (by omega)]
  refine Ev.eq (f := fun _ => some _) (fun k => ?_) (Ev.pure _)
  simp only [guard_Check.l0]
  rw [if_neg (by omega)]
  simp [passOf, failOf]
 | succ d ih =>
  intro j p x h hp hx
  have hj : j < rc.length := by omega
  have ew := w1 (n := j) (m := rc.length) hj (by omega)
  obtain ⟨s0, s1⟩ := hs _ (List.getElem_mem hj)
  rw [List.drop_eq_getElem_cons hj, pass_cons, fail_cons]
  refine Ev.eq (f := fun k => (guard_Check_1.f k (rc[j]'hj).f0 (rc[j]'hj).f1 hops ms).bind fun t207 => (if t207.toList = ([] : List UInt8) then (if p.length < 4398046511104 then (guard_Check.l0 k (p ++ [(⟨(rc[j]'hj).f0, (rc[j]'hj).f1⟩ : S50)]) x rc (rc.length : Int) ((j + 1 : Nat) : Int) ms hops) else (none)) else (if x.length < 2513169434916 then (guard_Check.l0 k p (x ++ [(⟨(⟨(rc[j]'hj).f0, (rc[j]'hj).f1⟩ : S50), 554, t207⟩ : S52)]) rc (rc.length : Int) ((j + 1 : Nat) : Int) ms hops) else (none)))) (fun k => ?_) ?_
  ·simp only [guard_Check.l0]
   rw [if_pos (by omega), if_pos (by omega), if_pos (by omega), rd50 rc j hj, ew]
  ·refine Ev.bind2 (chk_f hm hops s0 s1) ?_
   by_cases e : chk hops ms (rc[j]'hj) = ⟨#[]⟩
   ·rw [if_pos e, if_pos e]
    refine Ev.cong (fun k => if_pos (by rw [e, toL]; rfl)) ?_
    refine Ev.cong (fun k => if_pos (by omega)) ?_
    have := ih (j + 1) (p ++ [rc[j]'hj]) x (by omega) (by rw [List.length_append, List.length_singleton]; omega) (by omega)
    rw [List.append_assoc] at this
    exact this
   ·rw [if_neg e, if_neg e]
    refine Ev.cong (fun k => if_neg (fun h => e (L_inj (by rw [toL] at h; rw [h]; rfl)))) ?_
    refine Ev.cong (fun k => if_pos (by omega)) ?_
    have := ih (j + 1) p (x ++ [⟨rc[j]'hj, 554, chk hops ms (rc[j]'hj)⟩]) (by omega) (by omega) (by rw [List.length_append, List.length_singleton]; omega)
    rw [List.append_assoc] at this
    exact this
theorem check_f {l : List S72} {rc : List S50} (hl : l.length ≤ 1000000) (h0 : ∀ x ∈ l, x.f0.size ≤ 1000000) (h1 : ∀ x ∈ l, x.f1.size ≤ 1000000) (ht : rc.length ≤ 1000000) (hs : ∀ a ∈ rc, a.f0.size ≤ 1000000 ∧ a.f1.size ≤ 1000000) (b : ByteArray) (e : Bool) :
  Ev (fun k => guard_Check.f k l b e rc) (passOf ((headSel l nmRec).length : Int) (marksOf (headSel l nmDel)) rc, failOf ((headSel l nmRec).length : Int) (marksOf (headSel l nmDel)) rc) := by
 unfold guard_Check.f
 refine Ev.bind2 (marks_f hl h0 h1 b e) ?_
 refine Ev.bindc (hops_f hl h0 b e) ?_
 have hm := marks_len (headSel l nmDel)
 have hc := sel_len l nmDel
 have := chk_l0 (ms := marksOf (headSel l nmDel)) ht (by omega) hs ((headSel l nmRec).length : Int) rc.length 0 [] [] (by omega) (by simp) (by simp)
 rw [List.drop_zero, List.nil_append, List.nil_append] at this
 exact this
theorem rchk_l1 {l : List S72} {rc ms : List S50} (hl : l.length ≤ 1000000) (h0 : ∀ x ∈ l, x.f0.size ≤ 1000000) (ht : rc.length ≤ 1000000) (hm : ms.length ≤ 1000000) {b : ByteArray} {e : Bool} {p : List S46} {x : List S48} {j : Nat} (hj : j < rc.length) (hp : p.length ≤ j) (hx : x.length ≤ j) (n : S50) {R : List S46 × List S48}
  (hop : Int) (he : hop = ((headSel l nmRec).length : Int)) : ∀ (d i : Nat) (fl : Bool), i + d = ms.length →
  Ev (fun k => postriderref22_Check.l0 k (rc.map cvA) (p ++ (if hop > 25 then [] else if (fl || decide (n ∈ ms.drop i)) = true then [] else [cvA (rc[j]'hj)])) (x ++ (if hop > 25 then [⟨cvA (rc[j]'hj), 554, far⟩] else if (fl || decide (n ∈ ms.drop i)) = true then [⟨cvA (rc[j]'hj), 554, loopT⟩] else [])) (ms.map cvA) ((j + 1 : Nat) : Int) (l.map cvF) b e) R →
  Ev (fun k => postriderref22_Check.l1 k (rc.map cvA) p x (ms.map cvA) (j : Int) fl (i : Int) (l.map cvF) b e n.f0 n.f1) R := by
 intro d
 induction d with
 | zero =>
  intro i fl h hR
  rw [List.drop_of_length_le (by omega)] at hR
  have ew := w1 (n := j) (m := rc.length) hj (by omega)
  have hr : rd_T46 (rc.map cvA) (j : Int) = cvA (rc[j]'hj) := by rw [rd46 _ j (by rw [List.length_map]; omega), List.getElem_map]
  refine Ev.eq (f := fun k => (postriderref22_Hops.f k (l.map cvF) b e).bind fun t289 => (if t289 > 25 then (postriderref22_Check.l0 k (rc.map cvA) p (x ++ [(⟨cvA (rc[j]'hj), 554, far⟩ : S48)]) (ms.map cvA) ((j + 1 : Nat) : Int) (l.map cvF) b e) else (if fl = true then (postriderref22_Check.l0 k (rc.map cvA) p (x ++ [(⟨cvA (rc[j]'hj), 554, loopT⟩ : S48)]) (ms.map cvA) ((j + 1 : Nat) : Int) (l.map cvF) b e) else (postriderref22_Check.l0 k (rc.map cvA) (p ++ [cvA (rc[j]'hj)]) x (ms.map cvA) ((j + 1 : Nat) : Int) (l.map cvF) b e)))) (fun k => ?_) ?_
  ·simp only [postriderref22_Check.l1]
   rw [if_neg (by rw [List.length_map]; omega), hr, ew]
   have k1 : (0 : Int) ≤ (j : Int) := by omega
   have k2 : (j : Int) < ((rc.map cvA).length : Int) := by rw [List.length_map]; omega
   have k3 : x.length < 2513169434916 := by omega
   have k4 : p.length < 4398046511104 := by omega
   simp only [if_pos k1, if_pos k2, if_pos k3, if_pos k4]
   rfl
  ·refine Ev.bind2 (ref_hops_f hl h0 b e) ?_
   rw [← he]
   by_cases h25 : hop > 25
   ·rw [if_pos h25, if_pos h25, List.append_nil] at hR
    exact Ev.cong (fun k => if_pos h25) hR
   ·rw [if_neg h25, if_neg h25] at hR
    refine Ev.cong (fun k => if_neg h25) ?_
    cases fl with
    | true =>
     rw [Bool.true_or, if_pos rfl, if_pos rfl, List.append_nil] at hR
     exact Ev.cong (fun k => if_pos rfl) hR
    | false =>
     rw [if_neg (by simp), if_neg (by simp), List.append_nil] at hR
     exact Ev.cong (fun k => if_neg (by simp)) hR
 | succ d ih =>
  intro i fl h hR
  have hi : i < ms.length := by omega
  have k1 : (i : Int) < ((ms.map cvA).length : Int) := by rw [List.length_map]; omega
  have k2 : (0 : Int) ≤ (i : Int) := Int.natCast_nonneg _
  have ih1 : (i + 1) + d = ms.length := by omega
  have ew := w1 (n := i) (m := ms.length) hi (by omega)
  rw [List.drop_eq_getElem_cons hi] at hR
  have hr : rd_T46 (ms.map cvA) (i : Int) = cvA (ms[i]'hi) := by rw [rd46 _ i (by rw [List.length_map]; omega), List.getElem_map]
  have hb : ((((cvA (ms[i]'hi)).f0).toList) == n.f0.toList && ((((cvA (ms[i]'hi)).f1).toList) == n.f1.toList)) = decide (n = ms[i]'hi) := by
   rw [bq, bq]
   unfold cvA
   obtain ⟨x0, x1⟩ := n
   obtain ⟨y0, y1⟩ := ms[i]'hi
   rw [Bool.eq_iff_iff]
   simp only [Bool.and_eq_true, decide_eq_true_eq, S50.mk.injEq]
   exact ⟨fun ⟨a, b⟩ => ⟨a.symm, b.symm⟩, fun ⟨a, b⟩ => ⟨a.symm, b.symm⟩⟩
  by_cases ee : n = ms[i]'hi
  ·have e1 : (fl || decide (n ∈ (ms[i]'hi) :: ms.drop (i + 1))) = (true || decide (n ∈ ms.drop (i + 1))) := by rw [decide_eq_true (show n ∈ (ms[i]'hi) :: ms.drop (i + 1) from by rw [ee]; exact List.mem_cons_self), Bool.or_true, Bool.true_or]
   rw [e1] at hR
   refine Ev.eq (f := fun k => postriderref22_Check.l1 k (rc.map cvA) p x (ms.map cvA) (j : Int) true ((i + 1 : Nat) : Int) (l.map cvF) b e n.f0 n.f1) (fun k => ?_) (ih (i + 1) true ih1 hR)
   simp only [postriderref22_Check.l1]
   rw [if_pos k1, if_pos k2, hr, hb, if_pos (decide_eq_true ee), ew]
  ·have e1 : (fl || decide (n ∈ (ms[i]'hi) :: ms.drop (i + 1))) = (fl || decide (n ∈ ms.drop (i + 1))) := by
    congr 1
    exact decide_eq_decide.mpr ⟨fun h => (List.mem_cons.1 h).resolve_left ee, fun h => List.mem_cons_of_mem _ h⟩
   rw [e1] at hR
   refine Ev.eq (f := fun k => postriderref22_Check.l1 k (rc.map cvA) p x (ms.map cvA) (j : Int) fl ((i + 1 : Nat) : Int) (l.map cvF) b e n.f0 n.f1) (fun k => ?_) (ih (i + 1) fl ih1 hR)
   simp only [postriderref22_Check.l1]
   rw [if_pos k1, if_pos k2, hr, hb, if_neg (by simp [ee]), ew]
theorem chk_pass (hops : Int) (ms : List S50) (a : S50) : (if chk hops ms a = ⟨#[]⟩ then [a] else []).map cvA = (if hops > 25 then [] else if (false || decide (noS (L a.f0, L a.f1) ∈ ms.drop 0)) = true then [] else [cvA a]) := by
 unfold chk
 rw [List.drop_zero]
 by_cases h : hops > 25
 ·rw [if_pos h, if_pos h, if_neg (by decide)]; rfl
 ·rw [if_neg h, if_neg h]
  by_cases e : noS (L a.f0, L a.f1) ∈ ms
  ·rw [if_pos e, if_neg (by decide), if_pos (by rw [decide_eq_true e]; rfl)]; rfl
  ·rw [if_neg e, if_pos rfl, if_neg (by simp [e])]; rfl
theorem chk_fail (hops : Int) (ms : List S50) (a : S50) : (if chk hops ms a = ⟨#[]⟩ then ([] : List S52) else [⟨a, 554, chk hops ms a⟩]).map cvX = (if hops > 25 then [⟨cvA a, 554, far⟩] else if (false || decide (noS (L a.f0, L a.f1) ∈ ms.drop 0)) = true then [⟨cvA a, 554, loopT⟩] else []) := by
 unfold chk
 rw [List.drop_zero]
 by_cases h : hops > 25
 ·rw [if_pos h, if_pos h, if_neg (by decide)]; rfl
 ·rw [if_neg h, if_neg h]
  by_cases e : noS (L a.f0, L a.f1) ∈ ms
  ·rw [if_pos e, if_neg (by decide), if_pos (by rw [decide_eq_true e]; rfl)]; rfl
  ·rw [if_neg e, if_pos rfl, if_neg (by simp [e])]; rfl
theorem rchk_l0 {l : List S72} {rc ms : List S50} (hl : l.length ≤ 1000000) (h0 : ∀ x ∈ l, x.f0.size ≤ 1000000) (ht : rc.length ≤ 1000000) (hm : ms.length ≤ 1000000) (hs : ∀ a ∈ rc, a.f0.size ≤ 1000000 ∧ a.f1.size ≤ 1000000) {b : ByteArray} {e : Bool} : ∀ (d j : Nat) (p : List S50) (x : List S52), j + d = rc.length → p.length ≤ j → x.length ≤ j →
  Ev (fun k => postriderref22_Check.l0 k (rc.map cvA) (p.map cvA) (x.map cvX) (ms.map cvA) (j : Int) (l.map cvF) b e) ((p ++ passOf ((headSel l nmRec).length : Int) ms (rc.drop j)).map cvA, (x ++ failOf ((headSel l nmRec).length : Int) ms (rc.drop j)).map cvX) := by
 intro d
 induction d with
 | zero =>
  intro j p x h _ _
  rw [List.drop_of_length_le (by omega)]
  refine Ev.eq (f := fun _ => some _) (fun k => ?_) (Ev.pure _)
  simp only [postriderref22_Check.l0]
  rw [if_neg (by rw [List.length_map]; omega)]
  simp [passOf, failOf]
 | succ d ih =>
  intro j p x h hp hx
  have hj : j < rc.length := by omega
  obtain ⟨s0, s1⟩ := hs _ (List.getElem_mem hj)
  have hr : rd_T46 (rc.map cvA) (j : Int) = cvA (rc[j]'hj) := by rw [rd46 _ j (by rw [List.length_map]; omega), List.getElem_map]
  rw [List.drop_eq_getElem_cons hj, pass_cons, fail_cons, ← List.append_assoc, ← List.append_assoc]
  refine Ev.eq (f := fun k => (postriderref05_Normal.f k (rc[j]'hj).f0 (rc[j]'hj).f1).bind fun bt285 => (postriderref22_Check.l1 k (rc.map cvA) (p.map cvA) (x.map cvX) (ms.map cvA) (j : Int) false 0 (l.map cvF) b e bt285.1 bt285.2)) (fun k => ?_) ?_
  ·simp only [postriderref22_Check.l0]
   rw [if_pos (by rw [List.length_map]; omega), if_pos (by omega), hr]
   rfl
  ·refine Ev.bind2 (ref_normal_f s0 s1) ?_
   have key := ih (j + 1) (p ++ (if chk ((headSel l nmRec).length : Int) ms (rc[j]'hj) = ⟨#[]⟩ then [rc[j]'hj] else [])) (x ++ (if chk ((headSel l nmRec).length : Int) ms (rc[j]'hj) = ⟨#[]⟩ then [] else [⟨rc[j]'hj, 554, chk ((headSel l nmRec).length : Int) ms (rc[j]'hj)⟩])) (by omega)
    (by rw [List.length_append]; split <;> simp <;> omega) (by rw [List.length_append]; split <;> simp <;> omega)
   rw [List.map_append (l₁ := p), List.map_append (l₁ := x), chk_pass, chk_fail] at key
   exact rchk_l1 hl h0 ht hm hj (by rw [List.length_map]; omega) (by rw [List.length_map]; omega) (noS (L (rc[j]'hj).f0, L (rc[j]'hj).f1)) _ rfl ms.length 0 false (by omega) key
theorem ref_check_f {l : List S72} {rc : List S50} (hl : l.length ≤ 1000000) (h0 : ∀ x ∈ l, x.f0.size ≤ 1000000) (h1 : ∀ x ∈ l, x.f1.size ≤ 1000000) (ht : rc.length ≤ 1000000) (hs : ∀ a ∈ rc, a.f0.size ≤ 1000000 ∧ a.f1.size ≤ 1000000) (b : ByteArray) (e : Bool) :
  Ev (fun k => postriderref22_Check.f k (l.map cvF) b e (rc.map cvA)) ((passOf ((headSel l nmRec).length : Int) (marksOf (headSel l nmDel)) rc).map cvA, (failOf ((headSel l nmRec).length : Int) (marksOf (headSel l nmDel)) rc).map cvX) := by
 unfold postriderref22_Check.f
 refine Ev.bind2 (ref_marks_f hl h0 h1 b e) ?_
 have hm := marks_len (headSel l nmDel)
 have hc := sel_len l nmDel
 have := rchk_l0 (ms := marksOf (headSel l nmDel)) (b := b) (e := e) hl h0 ht (by omega) hs rc.length 0 [] [] (by omega) (by simp) (by simp)
 rw [List.drop_zero, List.nil_append, List.nil_append] at this
 exact this
end Go.Proofs.YtacjnapgdikhbaaGreatDoor.S

