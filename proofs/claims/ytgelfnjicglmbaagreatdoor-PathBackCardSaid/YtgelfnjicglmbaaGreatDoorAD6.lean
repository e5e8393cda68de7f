/- Addresses: what the program's functions come to. -/
import Derived.Test.YtgelfnjicglmbaaGreatDoorAL
import Derived.Test.YtgelfnjicglmbaaGreatDoorQx0
namespace Go.Proofs.YtgelfnjicglmbaaGreatDoor.S
open Go.RowKit Go.Proofs.YtgelfnjicglmbaaGreatDoor.Q Go.Proofs.YtgelfnjicglmbaaGreatDoorW.PrintWords Go.Proofs.YtgelfnjicglmbaaGreatDoorW.PrintLast Go.Proofs.YtgelfnjicglmbaaGreatDoorW.PrintMore
set_option linter.unusedVariables false
set_option linter.unusedSimpArgs false
theorem drop_lastL {α : Type} : ∀ {l : List α} (h : l ≠ []), l.drop (l.length - 1) = [l.getLast h]
 | [x], _ => rfl
 | x :: y :: t, h => by
  have := drop_lastL (l := y :: t) (by simp)
  simpa using this
theorem hpre1 {s : ByteArray} (c : UInt8) (hs : s.size ≤ 70368744177) : stringslite_HasPrefix.f s (⟨#[c]⟩ : ByteArray) = some (decide ((L s).head? = some c)) := by
 have hp : (⟨#[c]⟩ : ByteArray).size = 1 := rfl
 have hl := L_len s
 unfold stringslite_HasPrefix.f
 rw [hp]
 cases hd : L s with
 | nil =>
  rw [hd] at hl
  rw [if_neg (by simp at hl; omega)]
  simp
 | cons x t =>
  rw [hd] at hl
  rw [if_pos (by simp at hl; omega), if_pos (by omega), if_pos (by simp at hl; omega), toL, toL]
  have e : L (s.extract 0 (((1 : Nat) : Int)).toNat) = [x] := by
   rw [L_ext, hd]; rfl
  rw [e]
  show some ([x] == [c]) = _
  congr 1
  by_cases h : x = c <;> simp [h]
theorem cutP1 {s : ByteArray} (c : UInt8) (hs : s.size ≤ 70368744177) : strings_CutPrefix.f s (⟨#[c]⟩ : ByteArray) = some (if (L s).head? = some c then (B (L s).tail, true) else (s, false)) := by
 have hp : (⟨#[c]⟩ : ByteArray).size = 1 := rfl
 have hl := L_len s
 unfold strings_CutPrefix.f stringslite_CutPrefix.f
 rw [hpre1 c hs, Option.bind_some, hp]
 by_cases h : (L s).head? = some c
 ·have h1 : 1 ≤ s.size := by
   rw [← hl]
   cases hd : L s with
   | nil => rw [hd] at h; cases h
   | cons x t => simp
  rw [decide_eq_true h, if_pos rfl, if_pos (by omega), if_pos (by omega), Option.bind_some, if_pos h, ext_B]
  congr 3
  rw [show (((1 : Nat) : Int)).toNat = 1 from rfl, List.take_of_length_le (by rw [List.length_drop]; omega), List.drop_one]
 ·rw [decide_eq_false h, if_neg (by simp), Option.bind_some, if_neg h]
theorem hsuf1 {s : ByteArray} (c : UInt8) (hs : s.size ≤ 70368744177) : stringslite_HasSuffix.f s (⟨#[c]⟩ : ByteArray) = some (decide ((L s).getLast? = some c)) := by
 have hp : (⟨#[c]⟩ : ByteArray).size = 1 := rfl
 have hl := L_len s
 unfold stringslite_HasSuffix.f
 rw [hp]
 by_cases h1 : 1 ≤ s.size
 ·rw [if_pos (by omega), wk (by omega) (by omega), if_pos (by omega), if_pos (by omega), show ((s.size : Int) - ((1 : Nat) : Int)).toNat = s.size - 1 by omega, toL, toL, L_ext_end]
  have hne : L s ≠ [] := by intro e; rw [e] at hl; simp at hl; omega
  have e : (L s).drop (s.size - 1) = [(L s).getLast hne] := by
   rw [← hl]; exact drop_lastL hne
  rw [e, List.getLast?_eq_some_getLast hne]
  show some ([(L s).getLast hne] == [c]) = _
  congr 1
  by_cases h : (L s).getLast hne = c <;> simp [h]
 ·have : L s = [] := List.eq_nil_of_length_eq_zero (by omega)
  rw [if_neg (by omega), this]; simp
theorem cutS1 {s : ByteArray} (c : UInt8) (hs : s.size ≤ 70368744177) : strings_CutSuffix.f s (⟨#[c]⟩ : ByteArray) = some (if (L s).getLast? = some c then (B (L s).dropLast, true) else (s, false)) := by
 have hp : (⟨#[c]⟩ : ByteArray).size = 1 := rfl
 have hl := L_len s
 unfold strings_CutSuffix.f stringslite_CutSuffix.f
 rw [hsuf1 c hs, Option.bind_some, hp]
 by_cases h : (L s).getLast? = some c
 ·have h1 : 1 ≤ s.size := by
   rw [← hl]
   cases hd : L s with
   | nil => rw [hd] at h; cases h
   | cons x t => simp
  rw [decide_eq_true h, if_pos rfl, wk (by omega) (by omega), if_pos (by omega), if_pos (by omega), Option.bind_some, if_pos h, ext_B, show ((s.size : Int) - ((1 : Nat) : Int)).toNat = s.size - 1 by omega]
  congr 3
  rw [List.drop_zero, Nat.sub_zero, List.dropLast_eq_take, hl]
 ·rw [decide_eq_false h, if_neg (by simp), Option.bind_some, if_neg h]
theorem split_dot {s : ByteArray} (hs : s.size < 4294967281) : strings_Split.f s (⟨#[46]⟩ : ByteArray) = some ((partsL (L s)).map B) := by
 unfold strings_Split.f
 rw [if_pos ⟨hs, by decide⟩]
 congr 1
 have h := Lib.splitB_data (⟨#[46]⟩ : ByteArray) 0 (Lib.countB s ⟨#[46]⟩) s
 have h2 : (Lib.splitB (⟨#[46]⟩ : ByteArray) 0 (Lib.countB s ⟨#[46]⟩) s).map L = Lib.split (L s) [46] := h
 unfold partsL
 rw [← split_sp 46 _ _ (Nat.le_refl _), ← h2, List.map_map]
 conv => lhs; rw [← List.map_id (Lib.splitB _ _ _ _)]
 exact List.map_congr_left (fun x _ => (B_L x).symm)
theorem parts_small {l p : List UInt8} (h : p ∈ partsL l) : p.length ≤ l.length := by
 have := sp_small 46 l [] p h
 simpa using this
theorem anyF_all {α : Type} {p : α → Option Bool} {f : α → Bool} : ∀ l : List α, (∀ x ∈ l, p x = some (f x)) → anyF p l = some (l.any f)
 | [], _ => rfl
 | x :: t, h => by
  show ((p x).bind fun b => if b = true then some true else anyF p t) = _
  rw [h x (by simp), Option.bind_some, List.any_cons]
  cases f x with
  | true => rfl
  | false => exact anyF_all t (fun y hy => h y (List.mem_cons_of_mem _ hy))
theorem label_f {p : ByteArray} (hp : p.size ≤ 70368744177) : addr_label.f p = some (lbB (L p)) := by
 have hl := L_len p
 unfold addr_label.f lbB
 rw [toL]
 by_cases he : L p = []
 ·rw [if_pos he, he]; rfl
 rw [if_neg he]
 have h1 : 1 ≤ p.size := by
  rw [← hl]; exact Nat.pos_of_ne_zero (fun e => he (List.eq_nil_of_length_eq_zero e))
 have ht : strings_Trim.f p (⟨#[97, 98, 99, 100, 101, 102, 103, 104, 105, 106, 107, 108, 109, 110, 111, 112, 113, 114, 115, 116, 117, 118, 119, 120, 121, 122, 65, 66, 67, 68, 69, 70, 71, 72, 73, 74, 75, 76, 77, 78, 79, 80, 81, 82, 83, 84, 85, 86, 87, 88, 89, 90, 48, 49, 50, 51, 52, 53, 54, 55, 56, 57, 45]⟩ : ByteArray) = some (B (Lib.trimS (L p) hosts)) := by
  unfold strings_Trim.f
  rw [if_pos ⟨by omega, by decide, by decide⟩]; rfl
 rw [ht, Option.bind_some, toL, L_B]
 have hall : (Lib.trimS (L p) hosts = []) ↔ (L p).all lbC = true := by
  unfold Lib.trimS Lib.trimLeftS Lib.trimRightS
  simp only [hosts_C]
  exact trim_nil lbC _
 obtain ⟨x, t, hx⟩ : ∃ x t, L p = x :: t := List.exists_cons_of_ne_nil he
 have hb0 : bt p 0 = (x.toNat : Int) := bt_of (n := 0) (by rw [hx]; rfl)
 have hlast : bt p (wrap64 ((p.size : Int) - 1)) = (((L p).getLast he).toNat : Int) := by
  rw [wk (by omega) (by omega), show ((p.size : Int) - 1) = ((p.size - 1 : Nat) : Int) by omega]
  refine bt_of (l := []) ?_
  rw [← hl]; exact drop_lastL he
 by_cases ha : (L p).all lbC = true
 ·have q1 := c_eq x 45
  have e45 : ((45 : UInt8).toNat : Int) = 45 := rfl
  have hw : wrap64 ((p.size : Int) - 1) = (p.size : Int) - 1 := wk (by omega) (by omega)
  have hh : (L p).head? = some x := by rw [hx]; rfl
  have hi : (L p).isEmpty = false := by rw [hx]; rfl
  rw [if_pos (hall.2 ha), if_pos (by omega), ha, hb0, List.getLast?_eq_some_getLast he, hh, hi]
  by_cases h1 : x = 45
  ·rw [e45] at q1
   rw [if_pos (q1.2 h1), h1]; simp
  ·rw [e45] at q1
   rw [if_neg (fun e => h1 (q1.1 e)), hlast, hw, if_pos (by omega), if_pos (by omega)]
   generalize (L p).getLast he = z
   have q2 := c_eq z 45
   rw [e45] at q2
   by_cases h2 : z = 45
   ·rw [h2]; simp
   ·have : ((z.toNat : Int) != 45) = true := by simpa using fun e => h2 (q2.1 e)
    rw [this]; simp [h1, h2]
 ·rw [if_neg (fun e => ha (hall.1 e)), Bool.eq_false_iff.mpr ha]; simp
theorem numL_val (l : List UInt8) : numL l = valL l := rfl
theorem dig_C : ∀ c : UInt8, digC c = digB c := byte_all (by decide +kernel)
theorem digs (l : List UInt8) : l.all digC = l.all digB := by rw [show digC = digB from funext dig_C]
theorem valL_nn : ∀ (l : List UInt8), l.all digB = true → 0 ≤ valL l ∧ valL l < 10 ^ l.length := by
 intro l
 obtain ⟨r, rfl⟩ : ∃ r : List UInt8, l = r.reverse := ⟨l.reverse, by simp⟩
 induction r with
 | nil => intro _; exact ⟨by decide, by decide⟩
 | cons c t ih =>
  intro h
  rw [List.reverse_cons, List.all_append, Bool.and_eq_true] at h
  have h2 := h.2
  simp only [List.all_cons, List.all_nil, Bool.and_true] at h2
  unfold digB at h2
  simp only [Bool.and_eq_true, decide_eq_true_eq] at h2
  obtain ⟨i1, i2⟩ := ih h.1
  rw [List.reverse_cons]
  have e : valL (t.reverse ++ [c]) = 10 * valL t.reverse + ((c.toNat : Int) - 48) := by
   unfold valL; rw [List.foldl_append]; rfl
  rw [e, List.length_append, List.length_singleton, Int.pow_succ]
  omega
theorem octet_f {p : ByteArray} (hp : p.size ≤ 70368744177) : addr_octet.f p = some (ocB (L p)) := by
 have hl := L_len p
 unfold addr_octet.f ocB
 rw [number_f hp 3, Option.bind_some]
 have hok : numOK p 3 = (!(L p).isEmpty && decide ((L p).length ≤ 3) && (L p).all digB) := by
  unfold numOK
  rw [← digs, hl]
  show (!(L p).isEmpty && decide ((p.size : Int) ≤ max 1 (min 3 15)) && (L p).all digC) = _
  congr 2
  exact decide_eq_decide.mpr (by omega)
 rw [hok]
 by_cases h : (!(L p).isEmpty && decide ((L p).length ≤ 3) && (L p).all digB) = true
 ·rw [h, if_pos rfl, if_pos rfl]
  simp only [Bool.and_eq_true, decide_eq_true_eq, Bool.not_eq_true'] at h
  have hne : L p ≠ [] := by intro e; rw [e] at h; simp at h
  have hv := valL_nn _ h.2
  rw [numL_val]
  have hi := itoa_oc hne h.1.2 h.2
  have h1000 : valL (L p) < 1000 := by
   have h4 := h.1.2
   have h5 : (L p).length = 0 ∨ (L p).length = 1 ∨ (L p).length = 2 ∨ (L p).length = 3 := by omega
   have hv2 := hv.2
   rcases h5 with e | e | e | e <;> (rw [e] at hv2; exact Int.lt_of_lt_of_le hv2 (by decide))
  by_cases h2 : valL (L p) < 256
  ·have h3 : valL (L p) ≤ 255 := by omega
   rw [if_pos h2, decide_eq_true h3, Bool.true_and, Bool.true_and, ← hi]
   unfold strconv_Itoa.f
   rw [if_pos ⟨by omega, by omega⟩, Option.bind_some]
   show some ((B (Lib.itoa (valL (L p)))).toList == p.toList) = _
   rw [toL, toL, L_B]
   congr 1
   rw [Bool.eq_iff_iff]; simp
  ·have h3 : ¬ valL (L p) ≤ 255 := by omega
   rw [if_neg h2, decide_eq_false h3]; simp
 ·rw [Bool.eq_false_iff.mpr h]; simp
theorem all_label {s : ByteArray} (hs : s.size < 4294967281) : addr_domain_1__addr_label.f s = some ((partsL (L s)).all lbB) := by
 have hl := L_len s
 unfold addr_domain_1__addr_label.f
 rw [split_dot hs, Option.bind_some, anyF_all (f := fun x => !lbB (L x)) _ (fun x hx => by
  obtain ⟨p, hp, rfl⟩ := List.mem_map.1 hx
  have := parts_small hp
  unfold addr_domain_1__addr_label.p
  rw [label_f (by rw [B_size]; omega)]; rfl), Option.bind_some, List.any_map, List.not_any_eq_all_not]
 congr 2
 funext x
 simp [L_B]
theorem all_octet {s : ByteArray} (hs : s.size < 4294967281) : addr_domain_1__addr_octet.f s = some ((partsL (L s)).all ocB) := by
 have hl := L_len s
 unfold addr_domain_1__addr_octet.f
 rw [split_dot hs, Option.bind_some, anyF_all (f := fun x => !ocB (L x)) _ (fun x hx => by
  obtain ⟨p, hp, rfl⟩ := List.mem_map.1 hx
  have := parts_small hp
  unfold addr_domain_1__addr_octet.p
  rw [octet_f (by rw [B_size]; omega)]; rfl), Option.bind_some, List.any_map, List.not_any_eq_all_not]
 congr 2
 funext x
 simp [L_B]
theorem all_len {s : ByteArray} (hs : s.size < 4294967281) : addr_domain_1__addr_domain_2.f s = some (!(partsL (L s)).any fun p => decide (63 < p.length)) := by
 unfold addr_domain_1__addr_domain_2.f
 rw [split_dot hs, Option.bind_some, anyF_all (f := fun x => decide (63 < x.size)) _ (fun x hx => by
  unfold addr_domain_1__addr_domain_2.p addr_domain_2.f
  rw [Option.bind_some]
  congr 1
  rw [← decide_not]
  exact decide_eq_decide.mpr (by omega)), Option.bind_some, List.any_map]
 congr 3
 all_goals (try (funext x; simp [B_size]))
theorem count_f {s : ByteArray} : strings_Count.f s (⟨#[46]⟩ : ByteArray) = some (((partsL (L s)).length : Int) - 1) := by
 show some (Lib.countByte (L s) 46 : Int) = _
 congr 1
 unfold partsL
 rw [sp_count]
 have : Lib.countByte (L s) 46 = (L s).count 46 := by first | rfl | simp [Lib.countByte]
 first | omega | (rw [this]; omega)
theorem domain_f {s : ByteArray} (hs : s.size ≤ 1000000) : addr_domain.f s = some (dmL (L s) : Int) := by
 have hl := L_len s
 unfold addr_domain.f dmL
 rw [cutP1 91 (by omega), Option.bind_some]
 by_cases h1 : (L s).head? = some 91
 ·rw [if_pos h1, if_pos h1]
  simp only [if_true]
  obtain ⟨t, ht⟩ : ∃ t, L s = 91 :: t := by
   cases hd : L s with
   | nil => rw [hd] at h1; cases h1
   | cons x t => rw [hd] at h1; simp at h1; exact ⟨t, by rw [h1]⟩
  rw [ht] at hl ⊢
  simp only [List.length_cons] at hl
  rw [List.tail_cons, cutS1 93 (by rw [B_size]; omega), Option.bind_some, L_B]
  by_cases h2 : t.getLast? = some 93
  ·rw [if_pos h2]
   simp only [if_true]
   have hne : t ≠ [] := by intro e; rw [e] at h2; cases h2
   have h3 : (91 :: t).getLast? = some 93 := by rw [List.getLast?_cons_of_ne_nil hne]; exact h2
   have h4 : 2 ≤ (91 :: t).length := by
    rw [List.length_cons]; have := List.length_pos_iff.2 hne; omega
   have hd : t.dropLast.length ≤ t.length := by rw [List.length_dropLast]; omega
   rw [count_f, Option.bind_some, L_B, all_octet (by rw [B_size]; omega), L_B]
   unfold liB
   by_cases h5 : (partsL t.dropLast).length = 4
   ·rw [if_pos (by omega), Option.bind_some, decide_eq_true h5, Bool.true_and]
    cases (partsL t.dropLast).all ocB with
    | true => rw [if_pos rfl, if_pos ⟨h4, h3, rfl⟩]; rfl
    | false => rw [if_neg (by simp), if_neg (by simp)]; rfl
   ·rw [if_neg (by omega), if_neg (by simp [h5])]; rfl
  ·rw [if_neg h2]
   simp only [Bool.false_eq_true, if_false]
   rw [if_neg]
   ·rfl
   ·rintro ⟨h4, h3, _⟩
    cases t with
    | nil => simp at h4
    | cons y t => rw [List.getLast?_cons_cons] at h3; exact h2 h3
 ·rw [if_neg h1, if_neg h1]
  simp only [Bool.false_eq_true, if_false]
  rw [all_label (by omega), Option.bind_some]
  cases (partsL (L s)).all lbB with
  | false => simp
  | true =>
   simp only [if_true]
   rw [all_len (by omega)]
   by_cases h2 : (s.size : Int) > 255
   ·rw [if_pos h2, if_pos (.inl (by omega))]; rfl
   ·rw [if_neg h2, Option.bind_some]
    cases (partsL (L s)).any fun p => decide (63 < p.length) with
    | true => rw [if_neg (by simp), if_pos (.inr rfl)]; rfl
    | false => rw [if_pos (show (!false) = true from rfl), if_neg (by simp; omega)]; rfl
end Go.Proofs.YtgelfnjicglmbaaGreatDoor.S
