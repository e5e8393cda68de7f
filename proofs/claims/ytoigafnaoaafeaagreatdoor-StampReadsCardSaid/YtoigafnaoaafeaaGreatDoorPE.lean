/- Dates read: the document's way, on lists of bytes. -/
import Derived.Test.YtoigafnaoaafeaaGreatDoorPD
import Derived.Test.YtoigafnaoaafeaaGreatDoorQx5
import Derived.Test.YtoigafnaoaafeaaGreatDoorQx7
namespace Go.Proofs.YtoigafnaoaafeaaGreatDoor.S
open Go.RowKit Go.Proofs.YtoigafnaoaafeaaGreatDoor.Q Go.Proofs.YtoigafnaoaafeaaGreatDoorW.PrintWords Go.Proofs.YtoigafnaoaafeaaGreatDoorW.PrintLast Go.Proofs.YtoigafnaoaafeaaGreatDoorW.PrintMore
set_option linter.unusedVariables false
set_option linter.unusedSimpArgs false
/-! ### places of names -/
def plX (l : List UInt8) : List ByteArray → Nat → Int
  | [], _ => -1
  | z :: zs, i => if l.take z.size = L z then (i : Int) else plX l zs (i + 1)
theorem place_l0 {s : ByteArray} (hs : s.size ≤ 1000000) {at_ : Nat} (ha : at_ ≤ s.size) {zs : List ByteArray} (hz : ∀ z ∈ zs, 1 ≤ z.size ∧ z.size ≤ 1000) (hn : zs.length ≤ 1000) : ∀ (d j : Nat), j + d = zs.length →
    Ev (fun k => postriderref09_place.l0 k s (at_ : Int) zs (j : Int)) (plX ((L s).drop at_) (zs.drop j) j) := by
  have hl := L_len s
  intro d
  induction d with
  | zero =>
    intro j h
    rw [show zs.drop j = [] from List.drop_eq_nil_of_le (by omega)]
    refine Ev.eq (f := fun _ => some (-1)) (fun k => ?_) (Ev.pure _)
    simp only [postriderref09_place.l0]
    rw [if_neg (by omega)]
  | succ d ih =>
    intro j h
    have hj : j < zs.length := by omega
    have key := ih (j + 1) (by omega)
    rw [List.drop_eq_getElem_cons hj]
    have hzj := hz _ (List.getElem_mem hj)
    have ew : wrap64 ((j : Int) + 1) = ((j + 1 : Nat) : Int) := w1 hj (by omega)
    have hrd : rdOf ByteArray.empty zs (j : Int) = zs[j] := by
      unfold rdOf
      rw [Int.toNat_natCast, List.getD_eq_getElem?_getD, List.getElem?_eq_getElem hj]; rfl
    generalize zs[j] = z at hzj hrd
    have es : wrap64 ((at_ : Int) + (z.size : Int)) = ((at_ + z.size : Nat) : Int) := by rw [wk (by omega) (by omega)]; omega
    have hcut : (s.extract (at_ : Int).toNat (((at_ + z.size : Nat) : Int)).toNat).toList = ((L s).drop at_).take z.size := by
      rw [toL, L_ext, Int.toNat_natCast, Int.toNat_natCast, show at_ + z.size - at_ = z.size by omega]
    unfold plX
    by_cases c1 : at_ + z.size ≤ s.size
    · by_cases c2 : ((L s).drop at_).take z.size = L z
      · rw [if_pos c2]
        refine Ev.eq (f := fun _ => some (j : Int)) (fun k => ?_) (Ev.pure _)
        simp only [postriderref09_place.l0]
        rw [if_pos (by omega), if_pos (by omega), hrd, es, if_pos (by omega), if_pos (by omega), if_pos (by omega), hcut, toL, if_pos c2]
      · rw [if_neg c2]
        refine Ev.eq (fun k => ?_) key
        simp only [postriderref09_place.l0]
        rw [if_pos (by omega), if_pos (by omega), hrd, es, if_pos (by omega), if_pos (by omega), if_pos (by omega), hcut, toL, if_neg c2, ew]
    · have c2 : ¬ ((L s).drop at_).take z.size = L z := by
        intro e
        have := congrArg List.length e
        rw [List.length_take, List.length_drop, hl, L_len] at this
        omega
      rw [if_neg c2]
      refine Ev.eq (fun k => ?_) key
      simp only [postriderref09_place.l0]
      rw [if_pos (by omega), if_pos (by omega), hrd, es, if_neg (by omega), ew]
theorem place_f {s : ByteArray} (hs : s.size ≤ 1000000) {at_ : Nat} (ha : at_ ≤ s.size) {zs : List ByteArray} (hz : ∀ z ∈ zs, 1 ≤ z.size ∧ z.size ≤ 1000) (hn : zs.length ≤ 1000) : Ev (fun k => postriderref09_place.f k s (at_ : Int) zs) (plX ((L s).drop at_) zs 0) := by
  unfold postriderref09_place.f
  exact place_l0 hs ha hz hn zs.length 0 (by omega)
theorem wd_ok : ∀ z ∈ wdT, 1 ≤ z.size ∧ z.size ≤ 1000 := by decide
theorem mo_ok : ∀ z ∈ moT, 1 ≤ z.size ∧ z.size ≤ 1000 := by decide
theorem plW (r : List UInt8) : ∀ i, i < 7 → plX (wdN i ++ r) wdT 0 = (i : Int)
  | 0, _ => rfl
  | 1, _ => rfl
  | 2, _ => rfl
  | 3, _ => rfl
  | 4, _ => rfl
  | 5, _ => rfl
  | 6, _ => rfl
  | n + 7, h => absurd h (by omega)
theorem plM (r : List UInt8) : ∀ i, i < 12 → plX (moN i ++ r) moT 0 = (i : Int)
  | 0, _ => rfl
  | 1, _ => rfl
  | 2, _ => rfl
  | 3, _ => rfl
  | 4, _ => rfl
  | 5, _ => rfl
  | 6, _ => rfl
  | 7, _ => rfl
  | 8, _ => rfl
  | 9, _ => rfl
  | 10, _ => rfl
  | 11, _ => rfl
  | n + 12, h => absurd h (by omega)
theorem pl_any : ∀ (zs : List ByteArray) (l : List UInt8) (i : Nat), (∃ k, k < zs.length ∧ l.take (zs.getD k ByteArray.empty).size = L (zs.getD k ByteArray.empty) ∧ plX l zs i = ((i + k : Nat) : Int)) ∨ plX l zs i = -1
  | [], _, _ => .inr rfl
  | z :: zs, l, i => by
    unfold plX
    by_cases h : l.take z.size = L z
    · rw [if_pos h]; exact .inl ⟨0, by simp, h, rfl⟩
    · rw [if_neg h]
      rcases pl_any zs l (i + 1) with ⟨k, h1, h2, h3⟩ | h1
      · exact .inl ⟨k + 1, by simp; omega, h2, by rw [h3]; congr 1; omega⟩
      · exact .inr h1
theorem plW_ge {l : List UInt8} (h : ¬ plX l wdT 0 < 0) : ∃ i r, i < 7 ∧ l = wdN i ++ r := by
  rcases pl_any wdT l 0 with ⟨k, h1, h2, h3⟩ | h1
  · exact ⟨k, l.drop (wdT.getD k ByteArray.empty).size, h1, by unfold wdN; rw [← h2, List.take_append_drop]⟩
  · omega
theorem plM_ge {l : List UInt8} (h : ¬ plX l moT 0 < 0) : ∃ i r, i < 12 ∧ l = moN i ++ r := by
  rcases pl_any moT l 0 with ⟨k, h1, h2, h3⟩ | h1
  · exact ⟨k, l.drop (moT.getD k ByteArray.empty).size, h1, by unfold moN; rw [← h2, List.take_append_drop]⟩
  · omega
/-! ### rows of digits -/
def rwS (l : List UInt8) (n : Nat) : Int := if n ≤ l.length ∧ (l.take n).all dC = true then (dgN 0 (l.take n) : Int) else -1
theorem dgN_snoc : ∀ (l : List UInt8) (a : Nat) (c : UInt8), dgN a (l ++ [c]) = 10 * dgN a l + (c.toNat - 48)
  | [], a, c => rfl
  | x :: l, a, c => by
    rw [List.cons_append]
    exact dgN_snoc l _ c
theorem row_l0 {s : ByteArray} (hs : s.size ≤ 1000000) {at_ many : Nat} (hm : many ≤ 10) (hb : at_ + many ≤ s.size) : ∀ (rest pre : List UInt8), ((L s).drop at_).take many = pre ++ rest → pre.all dC = true →
    Ev (fun k => postriderref09_row.l0 k s (at_ : Int) (many : Int) (dgN 0 pre : Int) ((at_ + pre.length : Nat) : Int)) (if rest.all dC = true then (dgN 0 (pre ++ rest) : Int) else -1) := by
  have hl := L_len s
  intro rest
  have ee : wrap64 ((at_ : Int) + (many : Int)) = ((at_ + many : Nat) : Int) := by rw [wk (by omega) (by omega)]; omega
  induction rest with
  | nil =>
    intro pre h hp
    have hlen := congrArg List.length h
    rw [List.length_take, List.length_drop, hl, List.append_nil] at hlen
    simp only [List.all_nil, if_true, List.append_nil]
    refine Ev.eq (f := fun _ => some _) (fun k => ?_) (Ev.pure _)
    simp only [postriderref09_row.l0]
    rw [ee, if_neg (by omega)]
  | cons c rest ih =>
    intro pre h hp
    have hlen := congrArg List.length h
    rw [List.length_take, List.length_drop, hl, List.length_append, List.length_cons] at hlen
    have hc : bt s ((at_ + pre.length : Nat) : Int) = (c.toNat : Int) := by
      obtain ⟨r2, hr2⟩ : ∃ r2, (L s).drop (at_ + pre.length) = c :: r2 := by
        obtain ⟨X, e1⟩ : ∃ X, (L s).drop at_ = (pre ++ c :: rest) ++ X := ⟨((L s).drop at_).drop many, by rw [← h, List.take_append_drop]⟩
        refine ⟨rest ++ X, ?_⟩
        rw [← List.drop_drop, e1, List.append_assoc, List.drop_left]; rfl
      exact bt_of hr2
    have hpl : pre.length ≤ 10 ∧ pre.length < many ∧ at_ + pre.length < s.size := by clear ee ih; omega
    have g1 : ((at_ + pre.length : Nat) : Int) < ((at_ + many : Nat) : Int) := by clear ee ih; omega
    have g2 : 0 ≤ ((at_ + pre.length : Nat) : Int) := by clear ee ih; omega
    have g3 : ((at_ + pre.length : Nat) : Int) < (s.size : Int) := by clear ee ih; omega
    have ew : wrap64 (((at_ + pre.length : Nat) : Int) + 1) = ((at_ + (pre ++ [c]).length : Nat) : Int) := by
      clear ee ih
      rw [wk (by omega) (by omega)]; simp; omega
    have hsm := dgN_small hp (n := 10) hpl.1
    have e10 : (10 : Nat) ^ 10 = 10000000000 := rfl
    have hv : (dgN 0 pre : Int) < 10000000000 := by clear ee ih ew; omega
    have hv0 : 0 ≤ (dgN 0 pre : Int) := Int.natCast_nonneg _
    by_cases hd : dC c = true
    · have hd' := (dC_iff c).1 hd
      have key := ih (pre ++ [c]) (by rw [h]; simp) (by rw [List.all_append, hp]; simp [hd])
      have e2 : pre ++ [c] ++ rest = pre ++ c :: rest := by simp
      have e3 : (c :: rest).all dC = rest.all dC := by simp [hd]
      rw [e2] at key
      rw [e3]
      clear ih
      have f1 : ¬ (c.toNat : Int) < 48 := by clear ee ew key; omega
      have f2 : ¬ (c.toNat : Int) > 57 := by clear ee ew key; omega
      have f3 : wrap64 (10 * (dgN 0 pre : Int)) = 10 * (dgN 0 pre : Int) := wk (by clear ee ew key; omega) (by clear ee ew key; omega)
      have f4 : ((c.toNat : Int) - 48) % 256 = (c.toNat : Int) - 48 := by clear ee ew key; omega
      have f5 : wrap64 (10 * (dgN 0 pre : Int) + ((c.toNat : Int) - 48)) = 10 * (dgN 0 pre : Int) + ((c.toNat : Int) - 48) := wk (by clear ee ew key f3; omega) (by clear ee ew key f3; omega)
      have f6 : ((10 * dgN 0 pre + (c.toNat - 48) : Nat) : Int) = 10 * (dgN 0 pre : Int) + ((c.toNat : Int) - 48) := by clear ee ew key f3 f5; omega
      refine Ev.eq (fun k => ?_) key
      simp only [postriderref09_row.l0]
      rw [ee, if_pos g1, if_pos g2, if_pos g3, hc, if_neg f1, if_neg f2, f3, f4, f5, ew, dgN_snoc, f6]
    · have hd' : ¬ (48 ≤ c.toNat ∧ c.toNat ≤ 57) := fun g => hd ((dC_iff c).2 g)
      have e3 : (c :: rest).all dC = false := by simp [hd]
      rw [e3, if_neg (by simp)]
      refine Ev.eq (f := fun _ => some (-1)) (fun k => ?_) (Ev.pure _)
      simp only [postriderref09_row.l0]
      rw [ee, if_pos g1, if_pos g2, if_pos g3, hc]
      by_cases c1 : (c.toNat : Int) < 48
      · rw [if_pos c1]
      · rw [if_neg c1, if_pos (by clear ee ew ih; omega)]
theorem row_f {s : ByteArray} (hs : s.size ≤ 1000000) {at_ many : Nat} (ha : at_ ≤ s.size) (hm : many ≤ 10) : Ev (fun k => postriderref09_row.f k s (at_ : Int) (many : Int)) (rwS ((L s).drop at_) many) := by
  have hl := L_len s
  have ee : wrap64 ((at_ : Int) + (many : Int)) = ((at_ + many : Nat) : Int) := by rw [wk (by omega) (by omega)]; omega
  have hdl : ((L s).drop at_).length = s.size - at_ := by rw [List.length_drop, hl]
  unfold postriderref09_row.f rwS
  by_cases c : at_ + many ≤ s.size
  · refine Ev.cong (f := fun k => postriderref09_row.l0 k s (at_ : Int) (many : Int) 0 (at_ : Int)) (fun k => by rw [ee, if_neg (by omega)]) ?_
    have key := row_l0 hs hm c (((L s).drop at_).take many) [] rfl rfl
    rw [List.nil_append] at key
    by_cases c2 : (((L s).drop at_).take many).all dC = true
    · rw [if_pos c2] at key
      rw [if_pos ⟨by omega, c2⟩]
      exact key
    · rw [if_neg c2] at key
      rw [if_neg (fun g => c2 g.2)]
      exact key
  · refine Ev.cong (f := fun _ => some (-1)) (fun k => by rw [ee, if_pos (by omega)]) ?_
    rw [if_neg (by omega)]
    exact Ev.pure _
/-! ### the document's tick of a date's numbers -/
theorem ah_400 (y : Int) (q : Int) : ah (y + 400 * q) = ah y + 146097 * q := by unfold ah; omega
theorem rf_l2 {i d y h m s : Int} {j : Nat} (hj : j < 12) (hy0 : 1970 ≤ y) (hy : y ≤ 100000) (hd0 : 1 ≤ d) (hd : d ≤ ln (leapY y) j) (hh0 : 0 ≤ h) (hh : h ≤ 23) (hm0 : 0 ≤ m) (hm : m ≤ 59) (hs0 : 0 ≤ s) (hs : s ≤ 59) : ∀ (n : Nat) (z : Int), 1970 ≤ z → z + n = y →
    Ev (fun q => postriderref09_ParseDate.l2 q i y h m s (ah z + cum (leapY y) j + d - 1) z) (vl7 i d j y h m s) := by
  have ha := ah_bd (y := y) hy0 (by omega)
  have hl := ln_le (leapY y) hj
  have hc := cum_nn (leapY y) (show j ≤ 12 by omega)
  intro n
  induction n with
  | zero =>
    intro z hz he
    obtain rfl : z = y := by omega
    refine Ev.eq (f := fun _ => some (vl7 i d j z h m s)) (fun q => ?_) (Ev.pure _)
    simp only [postriderref09_ParseDate.l2]
    obtain ⟨T, hT⟩ : ∃ T, T = ah z + cum (leapY z) j + d - 1 := ⟨_, rfl⟩
    have hT0 : 0 ≤ T := by omega
    have hT1 : T ≤ 3900000000000 := by omega
    rw [← hT, if_neg (by omega), wk (x := 86400 * T) (by omega) (by omega), wk (x := 3600 * h) (by omega) (by omega), wk (x := 86400 * T + 3600 * h) (by omega) (by omega), wk (x := 60 * m) (by omega) (by omega), wk (x := 86400 * T + 3600 * h + 60 * m) (by omega) (by omega), wk (x := 86400 * T + 3600 * h + 60 * m + s) (by omega) (by omega), wk (x := T + 4) (by omega) (by omega), tm (by omega)]
    unfold vl7
    rw [← hT]
    by_cases c1 : 86400 * T + 3600 * h + 60 * m + s > 1099511627776
    · rw [if_pos c1, if_neg (by omega)]
    · rw [if_neg c1]
      by_cases c2 : (T + 4) % 7 = i
      · rw [if_pos c2, if_pos ⟨hy0, hd0, hd, hh, hm, hs, by omega, c2⟩]
      · rw [if_neg c2, if_neg (fun g => c2 g.2.2.2.2.2.2.2)]
  | succ n ih =>
    intro z hz he
    have key := ih (z + 1) (by omega) (by omega)
    have hst := ah_step z
    have h12 := cum12 z
    have hz1 := ah_bd (y := z) hz (by omega)
    refine Ev.eq (fun q => ?_) key
    simp only [postriderref09_ParseDate.l2]
    rw [if_pos (by omega), ref_days_f (by omega), Option.bind_some, wk (by omega) (by omega), wk (x := z + 1) (by omega) (by omega), show ah z + cum (leapY y) j + d - 1 + cum (leapY z) 12 = ah (z + 1) + cum (leapY y) j + d - 1 by omega]
theorem rf_l1 {i d y h m s : Int} {j : Nat} (hj : j < 12) (hy0 : 1970 ≤ y) (hy : y ≤ 100000) (hd0 : 1 ≤ d) (hd : d ≤ ln (leapY y) j) (hh0 : 0 ≤ h) (hh : h ≤ 23) (hm0 : 0 ≤ m) (hm : m ≤ 59) (hs0 : 0 ≤ s) (hs : s ≤ 59) : ∀ (n k : Nat), k + n = j →
    Ev (fun q => postriderref09_ParseDate.l1 q i (j : Int) y h m s (d - 1 + cum (leapY y) k) (k : Int)) (vl7 i d j y h m s) := by
  have hl := ln_le (leapY y) hj
  intro n
  induction n with
  | zero =>
    intro k hk
    obtain rfl : k = j := by omega
    have hc := cum_nn (leapY y) (show k ≤ 12 by omega)
    have h4 := ah_era ((y - 1970) / 400)
    have h5 := ah_400 (y - 400 * ((y - 1970) / 400)) ((y - 1970) / 400)
    obtain ⟨z, hz⟩ : ∃ z, z = y - (y - 1970) % 400 := ⟨_, rfl⟩
    have hz2 : ah z = 146097 * ((y - 1970) / 400) := by rw [← h4]; congr 1; omega
    have key := rf_l2 (i := i) hj hy0 hy hd0 hd hh0 hh hm0 hm hs0 hs (y - z).toNat z (by omega) (by omega)
    refine Ev.eq (fun q => ?_) key
    simp only [postriderref09_ParseDate.l1]
    rw [if_neg (by omega), wk (x := y - 1970) (by omega) (by omega), td (by omega), tm (by omega), wk (x := (y - 1970) / 400) (by omega) (by omega), wk (x := 146097 * ((y - 1970) / 400)) (by omega) (by omega), wk (x := d - 1 + cum (leapY y) k + 146097 * ((y - 1970) / 400)) (by omega) (by omega), wk (x := y - (y - 1970) % 400) (by omega) (by omega), ← hz, hz2, show d - 1 + cum (leapY y) k + 146097 * ((y - 1970) / 400) = 146097 * ((y - 1970) / 400) + cum (leapY y) k + d - 1 by omega]
  | succ n ih =>
    intro k hk
    have hc := cum_nn (leapY y) (show k ≤ 12 by omega)
    have hlk := ln_le (leapY y) (show k < 12 by omega)
    have hlp := ln_pos (leapY y) k (by omega)
    have hc1 : cum (leapY y) (k + 1) = cum (leapY y) k + ln (leapY y) k := rfl
    have key := ih (k + 1) (by omega)
    refine Ev.eq (fun q => ?_) key
    simp only [postriderref09_ParseDate.l1]
    rw [if_pos (by omega), ref_length_f (by omega) (by omega), Option.bind_some, wk (by omega) (by omega), wk (x := (k : Int) + 1) (by omega) (by omega), show d - 1 + cum (leapY y) k + ln (leapY y) k = d - 1 + cum (leapY y) (k + 1) by omega]
    rfl
theorem late_year {y d h m s : Int} {j : Nat} (hy : 100000 < y) (hj : j < 12) (hd : 1 ≤ d) (hh : 0 ≤ h) (hm : 0 ≤ m) (hs : 0 ≤ s) : ¬ 86400 * (ah y + cum (leapY y) j + d - 1) + 3600 * h + 60 * m + s ≤ 1099511627776 := by
  have h1 := ah_le (show (100001 : Int) ≤ y by omega)
  have h2 : ah 100001 = 35805088 := by decide
  have hc := cum_nn (leapY y) (show j ≤ 12 by omega)
  omega
theorem rf_j5 {i d y h m s : Int} {j : Nat} (hj : j < 12) (hy0 : 0 ≤ y) (hy : y ≤ 9999999999) (hd0 : 0 ≤ d) (hd : d < 100) (hh0 : 0 ≤ h) (hm0 : 0 ≤ m) (hs0 : 0 ≤ s) :
    Ev (fun q => postriderref09_ParseDate.j5 q i d (j : Int) y h m s false) (vl7 i d j y h m s) := by
  have bad : ¬ (1970 ≤ y ∧ y ≤ 100000 ∧ 1 ≤ d ∧ d ≤ ln (leapY y) j ∧ h ≤ 23 ∧ m ≤ 59 ∧ s ≤ 59) → Ev (fun q => postriderref09_ParseDate.j6 q i d (j : Int) y h m s true) (vl7 i d j y h m s) := by
    intro hn
    refine Ev.eq (f := fun _ => some (0, 24)) (fun q => by simp only [postriderref09_ParseDate.j6, if_true]) ?_
    unfold vl7
    rw [if_neg (fun g => hn ⟨g.1, by
      rcases Int.lt_or_le 100000 y with c | c
      · exact absurd g.2.2.2.2.2.2.1 (late_year c hj g.2.1 hh0 hm0 hs0)
      · exact c, g.2.1, g.2.2.1, g.2.2.2.1, g.2.2.2.2.1, g.2.2.2.2.2.1⟩)]
    exact Ev.pure _
  refine Ev.eq (f := fun k => if y < 1970 then (postriderref09_ParseDate.j6 k i d (j : Int) y h m s true) else (if y > 100000 then (postriderref09_ParseDate.j6 k i d (j : Int) y h m s true) else (if d < 1 then (postriderref09_ParseDate.j6 k i d (j : Int) y h m s true) else ((postriderref09_length.f y (j : Int)).bind fun t177 => (if d > t177 then (postriderref09_ParseDate.j6 k i d (j : Int) y h m s true) else (if h > 23 then (postriderref09_ParseDate.j6 k i d (j : Int) y h m s true) else (if m > 59 then (postriderref09_ParseDate.j6 k i d (j : Int) y h m s true) else (postriderref09_ParseDate.j6 k i d (j : Int) y h m s (decide (s > 59)))))))))) (fun q => by simp only [postriderref09_ParseDate.j5, Bool.false_eq_true, if_false]) ?_
  by_cases c1 : y < 1970
  · simp only [if_pos c1]; exact bad (by omega)
  · simp only [if_neg c1]
    by_cases c1' : y > 100000
    · simp only [if_pos c1']; exact bad (by omega)
    · simp only [if_neg c1']
      by_cases c2 : d < 1
      · simp only [if_pos c2]; exact bad (by omega)
      · simp only [if_neg c2]
        refine Ev.bindc (ref_length_f (by omega) hj) ?_
        by_cases c3 : d > ln (leapY y) j
        · simp only [if_pos c3]; exact bad (by omega)
        · simp only [if_neg c3]
          by_cases c4 : h > 23
          · simp only [if_pos c4]; exact bad (by omega)
          · simp only [if_neg c4]
            by_cases c5 : m > 59
            · simp only [if_pos c5]; exact bad (by omega)
            · simp only [if_neg c5]
              by_cases c6 : s > 59
              · rw [decide_eq_true c6]; exact bad (by omega)
              · rw [decide_eq_false c6]
                have key := rf_l1 (i := i) hj (show 1970 ≤ y by omega) (by omega) (show 1 ≤ d by omega) (by omega) hh0 (show h ≤ 23 by omega) hm0 (show m ≤ 59 by omega) hs0 (show s ≤ 59 by omega) j 0 (by omega)
                refine Ev.eq (fun q => ?_) key
                simp only [postriderref09_ParseDate.j6, Bool.false_eq_true, if_false]
                rw [wk (x := d - 1) (by omega) (by omega), show d - 1 + cum (leapY y) 0 = d - 1 by simp [cum]]
                rfl
end Go.Proofs.YtoigafnaoaafeaaGreatDoor.S
