/- Addresses, as the document has them. -/
import Derived.Test.YtacjnapgdikhbaaGreatDoorAE
import Derived.Test.YtacjnapgdikhbaaGreatDoorQx13
namespace Go.Proofs.YtacjnapgdikhbaaGreatDoor.S
open Go.RowKit Go.Proofs.YtacjnapgdikhbaaGreatDoor.Q Go.Proofs.YtacjnapgdikhbaaGreatDoorW.PrintWords Go.Proofs.YtacjnapgdikhbaaGreatDoorW.PrintLast Go.Proofs.YtacjnapgdikhbaaGreatDoorW.PrintMore
set_option linter.unusedVariables false
set_option linter.unusedSimpArgs false
theorem le_f (c : UInt8) : postriderref05_letter.f (c.toNat : Int) = some (leC c) := byte_all (p := fun c => postriderref05_letter.f (c.toNat : Int) = some (leC c)) (by decide +kernel) c
theorem sp_badD : ∀ (l cur : List UInt8), cur.all lbC = false → (spL 46 l cur).all lbB = false
 | [], cur, h => by
  simp only [spL, List.all_cons, List.all_nil, Bool.and_true]
  unfold lbB; rw [h]; simp
 | x :: t, cur, h => by
  unfold spL
  by_cases hx : x = 46
  ·rw [if_pos hx, List.all_cons]
   have : lbB cur = false := by unfold lbB; rw [h]; simp
   rw [this]; rfl
  ·rw [if_neg hx]
   exact sp_badD t _ (by rw [List.all_append, h]; rfl)
theorem seg_end {s : ByteArray} (hs : s.size ≤ 1000000) {m : Nat} {cur rest : List UInt8} (hd : (L s).drop m = cur ++ rest) (hm : m ≤ s.size) (hall : cur.all lbC = true) {long : Bool} {R : Int}
  (h : Ev (fun k => postriderref05_Domain.l0 k s (long || decide (63 < cur.length)) ((m + cur.length + 1 : Nat) : Int) ((m + cur.length + 1 : Nat) : Int)) R) :
  Ev (fun k => postriderref05_Domain.j2 k s long (m : Int) ((m + cur.length : Nat) : Int) false) (if lbB cur = true then R else 5) := by
 have hsz : m + (cur.length + rest.length) = s.size := by
  have := drop_size hd hm
  rwa [List.length_append] at this
 have j5 : Ev (fun k => postriderref05_Domain.j3 k s long (m : Int) ((m + cur.length : Nat) : Int) true) 5 := Ev.eq (f := fun _ => some 5) (fun k => by simp only [postriderref05_Domain.j3, if_true]) (Ev.pure _)
 have jn : Ev (fun k => postriderref05_Domain.j3 k s long (m : Int) ((m + cur.length : Nat) : Int) false) R := by
  refine Ev.eq (f := fun k => postriderref05_Domain.l0 k s (long || decide (63 < cur.length)) ((m + cur.length + 1 : Nat) : Int) ((m + cur.length + 1 : Nat) : Int)) (fun k => ?_) h
  simp only [postriderref05_Domain.j3, Bool.false_eq_true, if_false]
  rw [w1 (n := m + cur.length) (m := m + cur.length + 1) (by omega) (by omega), wk (by omega) (by omega)]
  by_cases h63 : 63 < cur.length
  ·rw [if_pos (by omega), decide_eq_true h63, Bool.or_true]
  ·rw [if_neg (by omega), decide_eq_false h63, Bool.or_false]
 by_cases he : cur = []
 ·subst he
  refine Ev.eq (f := fun k => postriderref05_Domain.j3 k s long (m : Int) ((m + ([] : List UInt8).length : Nat) : Int) true) (fun k => ?_) j5
  simp only [postriderref05_Domain.j2, Bool.false_eq_true, if_false]
  rw [if_pos (by simp)]
 ·obtain ⟨x, t, hx⟩ := List.exists_cons_of_ne_nil he
  have hb0 : bt s (m : Int) = (x.toNat : Int) := bt_of (l := t ++ rest) (by rw [hd, hx]; rfl)
  have hpos : 1 ≤ cur.length := by rw [hx]; simp
  have hlast : bt s ((m + cur.length - 1 : Nat) : Int) = ((cur.getLast he).toNat : Int) := by
   refine bt_of (l := rest) ?_
   rw [show m + cur.length - 1 = m + (cur.length - 1) by omega, ← List.drop_drop, hd, List.drop_append_of_le_length (by omega), drop_lastL he]
   rfl
  have e45 : ((45 : UInt8).toNat : Int) = 45 := rfl
  have q1 := c_eq x 45
  have q2 := c_eq (cur.getLast he) 45
  rw [e45] at q1 q2
  have hh : cur.head? = some x := by rw [hx]; rfl
  have hi : cur.isEmpty = false := by rw [hx]; rfl
  have hlb : lbB cur = ((some x != some 45) && (some (cur.getLast he) != some 45)) := by
   unfold lbB
   rw [hi, hall, hh, List.getLast?_eq_some_getLast he]; rfl
  have hne : ¬ ((m + cur.length : Nat) : Int) = (m : Int) := by omega
  have hw : wrap64 (((m + cur.length : Nat) : Int) - 1) = ((m + cur.length - 1 : Nat) : Int) := by rw [wk (by omega) (by omega)]; omega
  by_cases h1 : x = 45
  ·have : lbB cur = false := by rw [hlb, h1]; rfl
   rw [this]
   refine Ev.eq (f := fun k => postriderref05_Domain.j3 k s long (m : Int) ((m + cur.length : Nat) : Int) true) (fun k => ?_) j5
   simp only [postriderref05_Domain.j2, Bool.false_eq_true, if_false]
   rw [if_neg hne, if_pos (by omega), if_pos (by omega), hb0, if_pos (q1.2 h1)]
  ·by_cases h2 : cur.getLast he = 45
   ·have : lbB cur = false := by rw [hlb, h2]; simp
    rw [this]
    refine Ev.eq (f := fun k => postriderref05_Domain.j3 k s long (m : Int) ((m + cur.length : Nat) : Int) true) (fun k => ?_) j5
    simp only [postriderref05_Domain.j2, Bool.false_eq_true, if_false]
    rw [if_neg hne, if_pos (by omega), if_pos (by omega), hb0, if_neg (fun e => h1 (q1.1 e)), hw, if_pos (by omega), if_pos (by omega), hlast, beq_iff_eq.2 (q2.2 h2)]
   ·have : lbB cur = true := by rw [hlb]; simp [h1, h2]
    rw [this, if_pos rfl]
    refine Ev.eq (f := fun k => postriderref05_Domain.j3 k s long (m : Int) ((m + cur.length : Nat) : Int) false) (fun k => ?_) jn
    simp only [postriderref05_Domain.j2, Bool.false_eq_true, if_false]
    rw [if_neg hne, if_pos (by omega), if_pos (by omega), hb0, if_neg (fun e => h1 (q1.1 e)), hw, if_pos (by omega), if_pos (by omega), hlast, beq_eq_false_iff_ne.2 (fun e => h2 (q2.1 e))]
def rsD (ps : List (List UInt8)) (long : Bool) : Int := if ps.all lbB = true then (if (long || ps.any fun p => decide (63 < p.length)) = true then 3 else 0) else 5
theorem rsD_cons (p : List UInt8) (ps : List (List UInt8)) (long : Bool) : rsD (p :: ps) long = if lbB p = true then rsD ps (long || decide (63 < p.length)) else 5 := by
 unfold rsD
 rw [List.all_cons, List.any_cons]
 cases lbB p with
 | true => rw [Bool.true_and, Bool.or_assoc, if_pos rfl]
 | false => simp
theorem dom_l0 {s : ByteArray} (hs : s.size ≤ 1000000) : ∀ (l cur : List UInt8) (m : Nat) (long : Bool), (L s).drop m = cur ++ l → m ≤ s.size → cur.all lbC = true →
  Ev (fun k => postriderref05_Domain.l0 k s long (m : Int) ((m + cur.length : Nat) : Int)) (rsD (spL 46 l cur) long)
 | [], cur, m, long, hd, hm, hall => by
  have hsz : m + (cur.length + 0) = s.size := by
   have := drop_size hd hm
   rwa [List.length_append] at this
  have hend : Ev (fun k => postriderref05_Domain.l0 k s (long || decide (63 < cur.length)) ((m + cur.length + 1 : Nat) : Int) ((m + cur.length + 1 : Nat) : Int)) (rsD [] (long || decide (63 < cur.length))) := by
   refine Ev.eq (f := fun _ => some (rsD [] (long || decide (63 < cur.length)))) (fun k => ?_) (Ev.pure _)
   simp only [postriderref05_Domain.l0]
   rw [if_neg (by omega)]
   unfold rsD
   simp only [List.all_nil, List.any_nil, if_true, Bool.or_false]
   split <;> rfl
  have := seg_end hs hd hm hall hend
  rw [show spL 46 [] cur = [cur] from rfl, rsD_cons]
  refine Ev.eq (f := fun k => postriderref05_Domain.j2 k s long (m : Int) ((m + cur.length : Nat) : Int) false) (fun k => ?_) this
  simp only [postriderref05_Domain.l0]
  rw [if_pos (by omega), if_neg (by omega)]
 | c :: t, cur, m, long, hd, hm, hall => by
  have hsz : m + (cur.length + (t.length + 1)) = s.size := by
   have := drop_size hd hm
   rwa [List.length_append, List.length_cons] at this
  have hdi : (L s).drop (m + cur.length) = c :: t := by
   rw [← List.drop_drop, hd, List.drop_left]
  have hb : bt s ((m + cur.length : Nat) : Int) = (c.toNat : Int) := bt_of hdi
  have e46 : ((46 : UInt8).toNat : Int) = 46 := rfl
  have q := c_eq c 46
  rw [e46] at q
  by_cases hc : c = 46
  ·have ih := dom_l0 hs t [] (m + cur.length + 1) (long || decide (63 < cur.length)) (drop_next hdi) (by omega) rfl
   have hse := seg_end hs hd hm hall ih
   have e : spL 46 (c :: t) cur = cur :: spL 46 t [] := by rw [show spL 46 (c :: t) cur = if c = 46 then cur :: spL 46 t [] else spL 46 t (cur ++ [c]) from rfl, if_pos hc]
   rw [e, rsD_cons]
   refine Ev.eq (f := fun k => postriderref05_Domain.j2 k s long (m : Int) ((m + cur.length : Nat) : Int) false) (fun k => ?_) hse
   simp only [postriderref05_Domain.l0]
   rw [if_pos (by omega), if_pos (by omega), if_pos (by omega), hb, bne_eq_false_iff_eq.2 (q.2 hc)]
  ·have e : spL 46 (c :: t) cur = spL 46 t (cur ++ [c]) := by rw [show spL 46 (c :: t) cur = if c = 46 then cur :: spL 46 t [] else spL 46 t (cur ++ [c]) from rfl, if_neg hc]
   rw [e]
   refine Ev.eq (f := fun k => postriderref05_Domain.j2 k s long (m : Int) ((m + cur.length : Nat) : Int) true) (fun k => ?_) ?_
   ·simp only [postriderref05_Domain.l0]
    rw [if_pos (by omega), if_pos (by omega), if_pos (by omega), hb]
    have : (((c.toNat : Int)) != 46) = true := by simpa using fun h => hc (q.1 h)
    rw [this]
   ·by_cases hl : lbC c = true
    ·have ih := dom_l0 hs t (cur ++ [c]) m long (by rw [hd]; simp) hm (by rw [List.all_append, hall]; simpa using hl)
     rw [List.length_append, List.length_singleton] at ih
     refine Ev.eq (f := fun k => postriderref05_Domain.l0 k s long (m : Int) ((m + (cur.length + 1) : Nat) : Int)) (fun k => ?_) ih
     simp only [postriderref05_Domain.j2, if_true]
     rw [if_pos (by omega), if_pos (by omega), hb, le_f, Option.bind_some, w1 (n := m + cur.length) (m := m + cur.length + 1) (by omega) (by omega)]
     unfold lbC at hl
     cases hle : leC c with
     | true => rw [if_pos rfl]; rfl
     | false =>
      rw [hle, Bool.false_or, beq_iff_eq] at hl
      rw [if_neg (by simp), if_pos (by rw [hl]; rfl)]; rfl
    ·have hb2 : rsD (spL 46 t (cur ++ [c])) long = 5 := by
      have hcl : [c].all lbC = false := by simpa using hl
      unfold rsD
      rw [sp_badD t _ (by rw [List.all_append, hcl, Bool.and_false])]
      simp
     rw [hb2]
     refine Ev.eq (f := fun _ => some 5) (fun k => ?_) (Ev.pure _)
     simp only [postriderref05_Domain.j2, if_true]
     rw [if_pos (by omega), if_pos (by omega), hb, le_f, Option.bind_some]
     unfold lbC at hl
     simp only [Bool.or_eq_true, beq_iff_eq, not_or] at hl
     rw [Bool.eq_false_iff.mpr hl.1, if_neg (by simp), if_neg]
     have e45 : ((45 : UInt8).toNat : Int) = 45 := rfl
     have q4 := c_eq c 45
     rw [e45] at q4
     exact fun h => hl.2 (q4.1 h)
theorem lit_l0 {xs : List ByteArray} (h4 : xs.length = 4) (hx : ∀ x ∈ xs, x.size ≤ 1000000) : ∀ (d j : Nat), j + d = 4 → Ev (fun k => postriderref05_literal.l0 k xs (j : Int)) ((xs.drop j).all fun x => ocB (L x))
 | 0, j, h => by
  rw [List.drop_of_length_le (by omega)]
  exact Ev.eq (f := fun _ => some true) (fun k => by simp only [postriderref05_literal.l0]; rw [if_neg (by omega)]) (Ev.pure _)
 | d + 1, j, h => by
  have hj : j < xs.length := by omega
  have ih := lit_l0 h4 hx d (j + 1) (by omega)
  have hr : rdOf ByteArray.empty xs (j : Int) = xs[j]'hj := by simp [rdOf, hj]
  rw [List.drop_eq_getElem_cons hj, List.all_cons]
  obtain ⟨x, hxe⟩ : ∃ x, x = xs[j]'hj := ⟨_, rfl⟩
  have hxs : x.size ≤ 1000000 := hx x (by rw [hxe]; exact List.getElem_mem hj)
  rw [← hxe] at hr ⊢
  have hl := L_len x
  refine Ev.eq (f := fun k => (postriderref04_Number.f k x 3).bind fun bt250 => (if bt250.2 = 0 then (if bt250.1 > 255 then (some false) else (if (x.size : Int) > 1 then (if 0 < (x.size : Int) then (if (bt x 0) = 48 then (some false) else (postriderref05_literal.l0 k xs ((j + 1 : Nat) : Int))) else (none)) else (postriderref05_literal.l0 k xs ((j + 1 : Nat) : Int)))) else (some false))) (fun k => ?_) ?_
  ·simp only [postriderref05_literal.l0]
   rw [if_pos (by omega), if_pos (by omega), if_pos (by omega), hr, w1 (n := j) (m := 4) (by omega) (by omega)]
  ·refine Ev.bind2 (ref_number_f (s := x) (by omega) 3) ?_
   have hok : numOK x 3 = (!(L x).isEmpty && decide ((L x).length ≤ 3) && (L x).all digB) := by
    unfold numOK
    rw [← digs, hl]
    show (!(L x).isEmpty && decide ((x.size : Int) ≤ max 1 (min 3 15)) && (L x).all digC) = _
    congr 2
    exact decide_eq_decide.mpr (by omega)
   rw [hok]
   unfold ocB
   cases hb : (!(L x).isEmpty && decide ((L x).length ≤ 3) && (L x).all digB) with
   | false => simp only [Bool.false_eq_true, if_false, Bool.false_and]; exact Ev.cong (f := fun _ => some false) (fun k => if_neg (by decide)) (Ev.pure _)
   | true =>
    simp only [if_true, Bool.true_and, numL_val]
    by_cases hv : valL (L x) ≤ 255
    ·refine Ev.cong (fun k => if_neg (by omega)) ?_
     rw [decide_eq_true hv, Bool.true_and]
     by_cases h1 : (L x).length ≤ 1
     ·refine Ev.cong (fun k => if_neg (by omega)) ?_
      rw [decide_eq_true h1, Bool.true_or, Bool.true_and]
      exact ih
     ·refine Ev.cong (fun k => if_pos (by omega)) ?_
      refine Ev.cong (fun k => if_pos (by omega)) ?_
      obtain ⟨c, t, hc⟩ : ∃ c t, L x = c :: t := List.exists_cons_of_ne_nil (by intro e; rw [e] at h1; simp at h1)
      have hb0 : bt x 0 = (c.toNat : Int) := bt_of (n := 0) (by rw [hc]; rfl)
      have e48 : ((48 : UInt8).toNat : Int) = 48 := rfl
      have q := c_eq c 48
      rw [e48] at q
      rw [decide_eq_false h1, Bool.false_or, hb0, hc, List.head?_cons]
      by_cases h48 : c = 48
      ·refine Ev.cong (fun k => if_pos (q.2 h48)) ?_
       rw [h48]; exact Ev.pure _
      ·refine Ev.cong (fun k => if_neg (fun e => h48 (q.1 e))) ?_
       have : ((some c != some 48) : Bool) = true := by simp [h48]
       rw [this, Bool.true_and]
       exact ih
    ·refine Ev.cong (fun k => if_pos (by omega)) ?_
     rw [decide_eq_false hv, Bool.false_and, Bool.false_and]
     exact Ev.pure _
theorem lit_f {s : ByteArray} (hs : s.size ≤ 1000000) (h0 : (L s).head? = some 91) : Ev (fun k => postriderref05_literal.f k s) (decide (2 ≤ (L s).length) && decide ((L s).getLast? = some 93) && liB (L s).tail.dropLast) := by
 have hl := L_len s
 have jt : ∀ k, postriderref05_literal.j0 (k + 1) s true = some false := fun k => by simp only [postriderref05_literal.j0, if_true]
 have jT : Ev (fun k => postriderref05_literal.j0 k s true) false := Ev.eq jt (Ev.pure _)
 unfold postriderref05_literal.f
 by_cases h2 : 2 ≤ (L s).length
 ·refine Ev.cong (fun k => if_neg (by omega)) ?_
  refine Ev.cong (fun k => if_pos (by omega)) ?_
  obtain ⟨t, ht⟩ : ∃ t, L s = 91 :: t := by
   cases hd : L s with
   | nil => rw [hd] at h0; cases h0
   | cons x t => rw [hd] at h0; simp at h0; exact ⟨t, by rw [h0]⟩
  have hb0 : bt s 0 = ((91 : UInt8).toNat : Int) := bt_of (n := 0) (by rw [ht]; rfl)
  have hne : L s ≠ [] := by rw [ht]; simp
  have hw : wrap64 ((s.size : Int) - 1) = ((s.size - 1 : Nat) : Int) := by rw [wk (by omega) (by omega)]; omega
  have hlast : bt s ((s.size - 1 : Nat) : Int) = (((L s).getLast hne).toNat : Int) := bt_of (l := []) (by rw [← hl]; exact drop_lastL hne)
  have e93 : ((93 : UInt8).toNat : Int) = 93 := rfl
  have q := c_eq ((L s).getLast hne) 93
  rw [e93] at q
  rw [hb0, hw]
  refine Ev.cong (fun k => if_pos rfl) ?_
  refine Ev.cong (fun k => if_pos (by omega)) ?_
  refine Ev.cong (fun k => if_pos (by omega)) ?_
  rw [hlast, decide_eq_true h2, Bool.true_and, List.getLast?_eq_some_getLast hne]
  by_cases h93 : (L s).getLast hne = 93
  ·rw [bne_eq_false_iff_eq.2 (q.2 h93), h93, decide_eq_true rfl, Bool.true_and]
   refine Ev.eq (f := fun k => (postriderref04_Split.f k (B (L s).tail.dropLast) 46).bind fun t246 => (if (t246.length : Int) = 4 then (postriderref05_literal.l0 k t246 0) else (some false))) (fun k => ?_) ?_
   ·simp only [postriderref05_literal.j0, Bool.false_eq_true, if_false]
    rw [hw, if_pos (by omega), if_pos (by omega), Int.toNat_natCast]
    have : s.extract 1 (s.size - 1) = B (L s).tail.dropLast := by
     rw [ext_B, List.drop_one, List.dropLast_eq_take, List.length_tail, hl]
    rw [this]
   ·have hsp := ref_split_f (s := B (L s).tail.dropLast) (c := 46) (by rw [B_size, List.length_dropLast, List.length_tail]; omega)
    rw [L_B] at hsp
    refine Ev.bind2 hsp ?_
    unfold liB partsL
    by_cases h4 : (spL 46 (L s).tail.dropLast []).length = 4
    ·refine Ev.cong (fun k => if_pos (by rw [List.length_map]; omega)) ?_
     rw [decide_eq_true h4, Bool.true_and]
     have := lit_l0 (xs := (spL 46 (L s).tail.dropLast []).map B) (by rw [List.length_map]; exact h4) (fun x hx => by
      obtain ⟨p, hp, rfl⟩ := List.mem_map.1 hx
      have := parts_small (l := (L s).tail.dropLast) hp
      rw [B_size]; rw [List.length_dropLast, List.length_tail] at this; omega) 4 0 rfl
     rw [List.drop_zero, List.all_map] at this
     have e : (fun x => ocB (L x)) ∘ B = ocB := by funext x; simp [L_B]
     rw [e] at this
     exact this
    ·refine Ev.cong (fun k => if_neg (by rw [List.length_map]; omega)) ?_
     rw [decide_eq_false h4, Bool.false_and]
     exact Ev.pure _
  ·have : ((((L s).getLast hne).toNat : Int) != 93) = true := by simpa using fun e => h93 (q.1 e)
   rw [this, decide_eq_false (fun e => h93 (Option.some.inj e)), Bool.false_and]
   exact jT
 ·refine Ev.cong (fun k => if_pos (by omega)) ?_
  rw [decide_eq_false h2, Bool.false_and, Bool.false_and]
  exact jT
theorem ref_domain_f {s : ByteArray} (hs : s.size ≤ 1000000) : Ev (fun k => postriderref05_Domain.f k s) (dmL (L s) : Int) := by
 have hl := L_len s
 unfold postriderref05_Domain.f
 have jf : ¬ (L s).head? = some 91 → Ev (fun k => postriderref05_Domain.j0 k s false) (dmL (L s) : Int) := by
  intro h
  have := dom_l0 hs (L s) [] 0 (decide ((s.size : Int) > 255)) rfl (by omega) rfl
  refine Ev.eq (f := fun k => postriderref05_Domain.l0 k s (decide ((s.size : Int) > 255)) 0 0) (fun k => by simp only [postriderref05_Domain.j0, Bool.false_eq_true, if_false]) ?_
  have e : rsD (spL 46 (L s) []) (decide ((s.size : Int) > 255)) = (dmL (L s) : Int) := by
   unfold rsD dmL partsL
   rw [if_neg h]
   split
   ·have e1 : decide ((s.size : Int) > 255) = decide (255 < (L s).length) := decide_eq_decide.mpr (by omega)
    rw [e1]
    by_cases h2 : 255 < (L s).length
    ·simp [h2]
    ·rw [decide_eq_false h2, Bool.false_or]
     split
     ·rename_i h3; rw [if_pos (.inr h3)]; rfl
     ·rename_i h3; rw [if_neg (by simp only [not_or]; exact ⟨h2, h3⟩)]; rfl
   ·rfl
  rw [← e]; exact this
 by_cases h0 : 0 < s.size
 ·refine Ev.cong (fun k => if_pos (by omega)) ?_
  refine Ev.cong (fun k => if_pos (by omega)) ?_
  obtain ⟨c, t, hc⟩ : ∃ c t, L s = c :: t := List.exists_cons_of_ne_nil (by intro e; rw [e] at hl; simp at hl; omega)
  have hb0 : bt s 0 = (c.toNat : Int) := bt_of (n := 0) (by rw [hc]; rfl)
  have e91 : ((91 : UInt8).toNat : Int) = 91 := rfl
  have q := c_eq c 91
  rw [e91] at q
  rw [hb0]
  by_cases h91 : c = 91
  ·have hh : (L s).head? = some 91 := by rw [hc, h91]; rfl
   rw [beq_iff_eq.2 (q.2 h91)]
   refine Ev.eq (f := fun k => (postriderref05_literal.f k s).bind fun t254 => (if t254 = true then (some 0) else (some 5))) (fun k => by simp only [postriderref05_Domain.j0, if_true]) ?_
   refine Ev.bind2 (lit_f hs hh) ?_
   have e : (dmL (L s) : Int) = if (decide (2 ≤ (L s).length) && decide ((L s).getLast? = some 93) && liB (L s).tail.dropLast) = true then 0 else 5 := by
    unfold dmL
    rw [if_pos hh]
    by_cases h : 2 ≤ (L s).length ∧ (L s).getLast? = some 93 ∧ liB (L s).tail.dropLast = true
    ·rw [if_pos h, if_pos (by simp [h.1, h.2.1, h.2.2])]; rfl
    ·rw [if_neg h, if_neg (by simp only [Bool.and_eq_true, decide_eq_true_eq]; exact fun x => h ⟨x.1.1, x.1.2, x.2⟩)]; rfl
   rw [e]
   cases (decide (2 ≤ (L s).length) && decide ((L s).getLast? = some 93) && liB (L s).tail.dropLast) with
   | true => exact Ev.pure _
   | false => exact Ev.pure _
  ·rw [beq_eq_false_iff_ne.2 (fun e => h91 (q.1 e))]
   exact jf (by rw [hc]; simpa using h91)
 ·refine Ev.cong (fun k => if_neg (by omega)) ?_
  have : L s = [] := List.eq_nil_of_length_eq_zero (by omega)
  exact jf (by rw [this]; simp)
theorem ref_normal_f {a b : ByteArray} (ha : a.size ≤ 1000000) (hb : b.size ≤ 1000000) : Ev (fun k => postriderref05_Normal.f k a b) (B (noL (L a, L b)).1, B (noL (L a, L b)).2) := by
 unfold postriderref05_Normal.f noL
 refine Ev.bind2 (ref_lower_f (by omega)) ?_
 rw [toL, L_B]
 by_cases h : lowA (L a) = pmL
 ·refine Ev.cong (fun k => if_pos h) ?_
  refine Ev.bind2 (ref_lower_f (by omega)) ?_
  rw [if_pos h]; exact Ev.pure _
 ·refine Ev.cong (fun k => if_neg h) ?_
  refine Ev.bind2 (ref_lower_f (by omega)) ?_
  rw [if_neg h, B_L]; exact Ev.pure _
theorem ref_j2 {s w : ByteArray} {at_ : Nat} (hs : s.size ≤ 1000000) (ha : at_ ≤ s.size) : Ev (fun k => postriderref05_Parse.j2 k s w (at_ : Int)) (finA true w ((L s).drop at_)) := by
 have hl := L_len s
 have j5 : Ev (fun k => postriderref05_Parse.j3 k s w (at_ : Int) true) ((B [], B [], 5) : ByteArray × ByteArray × Int) := Ev.eq (f := fun _ => some (B [], B [], 5)) (fun k => by simp only [postriderref05_Parse.j3, if_true]; rfl) (Ev.pure _)
 by_cases h : at_ = s.size
 ·have e : (L s).drop at_ = [] := List.drop_of_length_le (by omega)
  rw [e]
  unfold finA
  rw [if_neg (by simp)]
  refine Ev.eq (f := fun k => postriderref05_Parse.j3 k s w (at_ : Int) true) (fun k => ?_) j5
  simp only [postriderref05_Parse.j2]
  rw [if_pos (by omega)]
 ·obtain ⟨c, t, hc⟩ : ∃ c t, (L s).drop at_ = c :: t := List.exists_cons_of_ne_nil (by intro e; have := congrArg List.length e; rw [List.length_drop] at this; simp at this; omega)
  have hb : bt s (at_ : Int) = (c.toNat : Int) := bt_of hc
  have e64 : ((64 : UInt8).toNat : Int) = 64 := rfl
  have q := c_eq c 64
  rw [e64] at q
  rw [hc]
  by_cases h64 : c = 64
  ·refine Ev.eq (f := fun k => postriderref05_Parse.j3 k s w (at_ : Int) false) (fun k => ?_) ?_
   ·simp only [postriderref05_Parse.j2]
    rw [if_neg (by omega), if_pos (by omega), if_pos (by omega), hb, bne_eq_false_iff_eq.2 (q.2 h64)]
   ·have hdr : (L s).drop (at_ + 1) = t := drop_next hc
    have hex : s.extract (at_ + 1) s.size = B t := by rw [ext_B, hdr, List.take_of_length_le]; have := congrArg List.length hdr; rw [List.length_drop] at this; omega
    have htl : t.length ≤ s.size := by have := congrArg List.length hdr; rw [List.length_drop] at this; omega
    have hd := ref_domain_f (s := B t) (by rw [B_size]; omega)
    rw [L_B] at hd
    refine Ev.eq (f := fun k => (postriderref05_Domain.f k (B t)).bind fun t265 => (if t265 = 5 then (some ((⟨#[]⟩ : ByteArray), (⟨#[]⟩ : ByteArray), 5)) else (if t265 = 3 then (some ((⟨#[]⟩ : ByteArray), (⟨#[]⟩ : ByteArray), 3)) else (if (w.size : Int) > 64 then (some ((⟨#[]⟩ : ByteArray), (⟨#[]⟩ : ByteArray), 3)) else (some (w, B t, 0)))))) (fun k => ?_) ?_
    ·simp only [postriderref05_Parse.j3, Bool.false_eq_true, if_false]
     rw [w1 (n := at_) (m := s.size) (by omega) (by omega), if_pos (by omega), if_pos (by omega), Int.toNat_natCast, hex]
    ·refine Ev.bind2 hd ?_
     have hf : finA true w (c :: t) = (if dmL t = 5 then (B [], B [], 5) else if dmL t = 0 ∧ w.size ≤ 64 then (w, B t, 0) else (B [], B [], 3)) := by
      unfold finA
      rw [if_pos ⟨rfl, by rw [h64]; rfl⟩, List.tail_cons]
     rw [hf]
     clear hf hd
     rcases dmL_vals t with hv | hv | hv
     ·rw [hv]
      refine Ev.cong (fun k => if_neg (by decide)) ?_
      refine Ev.cong (fun k => if_neg (by decide)) ?_
      rw [if_neg (show ¬ (0 : Nat) = 5 by decide)]
      by_cases hw : w.size ≤ 64
      ·refine Ev.cong (fun k => if_neg (by omega)) ?_
       rw [if_pos ⟨rfl, hw⟩]; exact Ev.pure _
      ·refine Ev.cong (fun k => if_pos (by omega)) ?_
       rw [if_neg (fun x => hw x.2)]; exact Ev.pure _
     ·rw [hv]
      refine Ev.cong (fun k => if_neg (by decide)) ?_
      refine Ev.cong (fun k => if_pos (by decide)) ?_
      rw [if_neg (by decide), if_neg (by simp)]; exact Ev.pure _
     ·rw [hv]
      refine Ev.cong (fun k => if_pos (by decide)) ?_
      rw [if_pos rfl]; exact Ev.pure _
  ·unfold finA
   rw [if_neg (by simp [h64])]
   refine Ev.eq (f := fun k => postriderref05_Parse.j3 k s w (at_ : Int) true) (fun k => ?_) j5
   simp only [postriderref05_Parse.j2]
   rw [if_neg (by omega), if_pos (by omega), if_pos (by omega), hb]
   have : ((c.toNat : Int) != 64) = true := by simpa using fun e => h64 (q.1 e)
   rw [this]
theorem ref_scan {s : ByteArray} (hs : s.size ≤ 1000000) : ∀ (l : List UInt8) (n : Nat), (L s).drop n = l → n ≤ s.size →
  Ev (fun k => postriderref05_Parse.l0 k s (n : Int)) (if dtL ((L s).take (n + (atHead l).length)) true = true then finA true (B ((L s).take (n + (atHead l).length))) ((L s).drop (n + (atHead l).length)) else (B [], B [], 5))
 | [], n, hd, hn => by
  have hl := L_len s
  have he := drop_end hd
  have e0 : (atHead ([] : List UInt8)).length = 0 := rfl
  rw [e0, Nat.add_zero]
  have hda := ref_dot_f (s := B ((L s).take n)) (by rw [B_size, List.length_take]; omega)
  rw [L_B] at hda
  refine Ev.eq (f := fun k => (postriderref04_DotAtom.f k (B ((L s).take n))).bind fun t264 => (if t264 = true then (postriderref05_Parse.j2 k s (B ((L s).take n)) (n : Int)) else (some ((⟨#[]⟩ : ByteArray), (⟨#[]⟩ : ByteArray), 5)))) (fun k => ?_) ?_
  ·simp only [postriderref05_Parse.l0]
   have e1 : s.extract 0 ((n : Int)).toNat = B ((L s).take n) := by rw [Int.toNat_natCast, ext_B, List.drop_zero, Nat.sub_zero]
   rw [if_neg (by omega), if_pos (by omega), if_pos (by omega), e1]
  ·refine Ev.bind2 hda ?_
   cases dtL ((L s).take n) true with
   | true => simp only [if_true]; exact ref_j2 hs hn
   | false => simp only [Bool.false_eq_true, if_false]; exact Ev.pure _
 | c :: t, n, hd, hn => by
  have hl := L_len s
  have hlt := drop_lt hd
  have hb : bt s (n : Int) = (c.toNat : Int) := bt_of hd
  have e64 : ((64 : UInt8).toNat : Int) = 64 := rfl
  have q := c_eq c 64
  rw [e64] at q
  by_cases h64 : c = 64
  ·have e0 : (atHead (c :: t)).length = 0 := by unfold atHead; rw [List.takeWhile_cons, if_neg (by simp [h64])]; rfl
   rw [e0, Nat.add_zero]
   have hda := ref_dot_f (s := B ((L s).take n)) (by rw [B_size, List.length_take]; omega)
   rw [L_B] at hda
   refine Ev.eq (f := fun k => (postriderref04_DotAtom.f k (B ((L s).take n))).bind fun t264 => (if t264 = true then (postriderref05_Parse.j2 k s (B ((L s).take n)) (n : Int)) else (some ((⟨#[]⟩ : ByteArray), (⟨#[]⟩ : ByteArray), 5)))) (fun k => ?_) ?_
   ·simp only [postriderref05_Parse.l0]
    have e1 : s.extract 0 ((n : Int)).toNat = B ((L s).take n) := by rw [Int.toNat_natCast, ext_B, List.drop_zero, Nat.sub_zero]
    rw [if_pos (by omega), if_pos (by omega), hb, if_pos (q.2 h64), if_pos (by omega), e1]
   ·refine Ev.bind2 hda ?_
    cases dtL ((L s).take n) true with
    | true => simp only [if_true]; exact ref_j2 hs hn
    | false => simp only [Bool.false_eq_true, if_false]; exact Ev.pure _
  ·have ih := ref_scan hs t (n + 1) (drop_next hd) (by omega)
   have e0 : (atHead (c :: t)).length = (atHead t).length + 1 := by unfold atHead; rw [List.takeWhile_cons, if_pos (by simpa using h64), List.length_cons]
   rw [e0, show n + ((atHead t).length + 1) = n + 1 + (atHead t).length by omega]
   refine Ev.eq (f := fun k => postriderref05_Parse.l0 k s ((n + 1 : Nat) : Int)) (fun k => ?_) ih
   simp only [postriderref05_Parse.l0]
   rw [if_pos (by omega), if_pos (by omega), hb, if_neg (fun e => h64 (q.1 e)), w1 (n := n) (m := s.size) hlt (by omega)]
theorem fin_pa (w r : List UInt8) (is : Bool) : finA is (B w) r = (let p : List UInt8 × List UInt8 × Nat := if is = true ∧ r.head? = some 64 then (if dmL r.tail = 5 then ([], [], 5) else if dmL r.tail = 0 ∧ w.length ≤ 64 then (w, r.tail, 0) else ([], [], 3)) else ([], [], 5); (B p.1, B p.2.1, (p.2.2 : Int))) := by
 unfold finA
 rw [B_size]
 split
 ·split
  ·rfl
  ·split <;> rfl
 ·rfl
theorem ref_parse_f {s : ByteArray} (hs : s.size ≤ 1000000) : Ev (fun k => postriderref05_Parse.f k s) (B (paL (L s)).1, B (paL (L s)).2.1, ((paL (L s)).2.2 : Int)) := by
 have hl := L_len s
 unfold postriderref05_Parse.f
 have hah : (atHead (L s)) = (L s).take (atHead (L s)).length := (List.prefix_iff_eq_take.1 (List.takeWhile_prefix _))
 have hal : (atHead (L s)).length ≤ s.size := by rw [← hl]; exact (List.takeWhile_prefix _).length_le
 have jf : ¬ (L s).head? = some 34 → Ev (fun k => postriderref05_Parse.j0 k s 0 false) (B (paL (L s)).1, B (paL (L s)).2.1, ((paL (L s)).2.2 : Int)) := by
  intro h34
  have := ref_scan hs (L s) 0 rfl (by omega)
  rw [Nat.zero_add, ← hah] at this
  refine Ev.eq (f := fun k => postriderref05_Parse.l0 k s 0) (fun k => by simp only [postriderref05_Parse.j0, Bool.false_eq_true, if_false]) ?_
  have lc : lcL (L s) = (atHead (L s), (atHead (L s)).length, dtL (atHead (L s)) true) := by unfold lcL; rw [if_neg h34]
  have e : (B (paL (L s)).1, B (paL (L s)).2.1, ((paL (L s)).2.2 : Int)) = (if dtL (atHead (L s)) true = true then finA true (B (atHead (L s))) ((L s).drop (atHead (L s)).length) else (B [], B [], 5)) := by
   unfold paL
   rw [lc, fin_pa]
   cases dtL (atHead (L s)) true with
   | true => simp
   | false => simp
  rw [e]
  exact this
 by_cases h0 : 0 < s.size
 ·refine Ev.cong (fun k => if_pos (by omega)) ?_
  refine Ev.cong (fun k => if_pos (by omega)) ?_
  obtain ⟨c, t, hc⟩ : ∃ c t, L s = c :: t := List.exists_cons_of_ne_nil (by intro e; rw [e] at hl; simp at hl; omega)
  have hb0 : bt s 0 = (c.toNat : Int) := bt_of (n := 0) (by rw [hc]; rfl)
  have e34 : ((34 : UInt8).toNat : Int) = 34 := rfl
  have q := c_eq c 34
  rw [e34] at q
  rw [hb0]
  by_cases h34 : c = 34
  ·have hh : (L s).head? = some 34 := by rw [hc, h34]; rfl
   obtain ⟨q1, q2, q3⟩ := qd_le (L s)
   rw [beq_iff_eq.2 (q.2 h34)]
   refine Ev.eq (f := fun k => (postriderref04_Quoted.f k s).bind fun bt260 => (if bt260.2.2 = 0 then (if bt260.1.toList = ([] : List UInt8) then (some ((⟨#[]⟩ : ByteArray), (⟨#[]⟩ : ByteArray), 5)) else (postriderref05_Parse.j2 k s bt260.1 bt260.2.1)) else (some ((⟨#[]⟩ : ByteArray), (⟨#[]⟩ : ByteArray), 5)))) (fun k => by simp only [postriderref05_Parse.j0, if_true]) ?_
   refine Ev.bind2 (ref_quoted_f (by omega)) ?_
   unfold res3
   simp only [toL, L_B]
   have a1 : (lcL (L s)).1 = (qd (L s)).1 := by unfold lcL; rw [if_pos hh]
   have a2 : (lcL (L s)).2.1 = (qd (L s)).2.1 := by unfold lcL; rw [if_pos hh]
   have a3 : (lcL (L s)).2.2 = (decide ((qd (L s)).2.2 = 0) && !(qd (L s)).1.isEmpty) := by unfold lcL; rw [if_pos hh]
   by_cases h0 : (qd (L s)).2.2 = 0
   ·refine Ev.cong (fun k => if_pos (by omega)) ?_
    by_cases hi : (qd (L s)).1 = []
    ·refine Ev.cong (fun k => if_pos hi) ?_
     have : paL (L s) = ([], [], 5) := by unfold paL; rw [a3, hi]; simp
     rw [this]; exact Ev.pure _
    ·refine Ev.cong (fun k => if_neg hi) ?_
     have := ref_j2 (s := s) (w := B (qd (L s)).1) (at_ := (qd (L s)).2.1) hs (by omega)
     rw [fin_pa] at this
     have e : paL (L s) = (if true = true ∧ ((L s).drop (qd (L s)).2.1).head? = some 64 then (if dmL ((L s).drop (qd (L s)).2.1).tail = 5 then ([], [], 5) else if dmL ((L s).drop (qd (L s)).2.1).tail = 0 ∧ (qd (L s)).1.length ≤ 64 then ((qd (L s)).1, ((L s).drop (qd (L s)).2.1).tail, 0) else ([], [], 3)) else ([], [], 5)) := by
      unfold paL
      have hne : (!(qd (L s)).1.isEmpty) = true := by cases hq : (qd (L s)).1 with
       | nil => exact absurd hq hi
       | cons _ _ => rfl
      rw [a1, a2, a3, decide_eq_true h0, hne]
      rfl
     rw [e]
     exact this
   ·refine Ev.cong (fun k => if_neg (by omega)) ?_
    have : paL (L s) = ([], [], 5) := by unfold paL; rw [a3, decide_eq_false h0]; simp
    rw [this]; exact Ev.pure _
  ·rw [beq_eq_false_iff_ne.2 (fun e => h34 (q.1 e))]
   exact jf (by rw [hc]; simpa using h34)
 ·refine Ev.cong (fun k => if_neg (by omega)) ?_
  have : L s = [] := List.eq_nil_of_length_eq_zero (by omega)
  exact jf (by rw [this]; simp)
end Go.Proofs.YtacjnapgdikhbaaGreatDoor.S

