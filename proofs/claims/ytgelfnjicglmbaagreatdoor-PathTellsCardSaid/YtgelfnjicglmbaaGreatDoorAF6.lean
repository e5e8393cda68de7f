/- Domains, as the document has them. -/
import Derived.Test.YtgelfnjicglmbaaGreatDoorAD6
import Derived.Test.YtgelfnjicglmbaaGreatDoorQx0
namespace Go.Proofs.YtgelfnjicglmbaaGreatDoor.S
open Go.RowKit Go.Proofs.YtgelfnjicglmbaaGreatDoor.Q Go.Proofs.YtgelfnjicglmbaaGreatDoorW.PrintWords Go.Proofs.YtgelfnjicglmbaaGreatDoorW.PrintLast Go.Proofs.YtgelfnjicglmbaaGreatDoorW.PrintMore
set_option linter.unusedVariables false
set_option linter.unusedSimpArgs false
theorem le_f (c : UInt8) : postriderref05_letter.f (c.toNat : Int) = some (leC c) := byte_all (p := fun c => postriderref05_letter.f (c.toNat : Int) = some (leC c)) (by decide +kernel) c
theorem sp_badD : ∀ (l cur : List UInt8), cur.all lbC = false → (spL 46 l cur).all lbB = false
 | [], cur, h => by
  simp only [spL, List.all_cons, List.all_nil, Bool.and_true]
  unfold lbB; rw [h]; simp
 | x :: t, cur, h => by
  unfold spL
  by_cases hx : x = 46
  ·rw [if_pos hx, List.all_cons]
   have : lbB cur = false := by unfold lbB; rw [h]; simp
   rw [this]; rfl
  ·rw [if_neg hx]
   exact sp_badD t _ (by rw [List.all_append, h]; rfl)
theorem seg_end {s : ByteArray} (hs : s.size ≤ 1000000) {m : Nat} {cur rest : List UInt8} (hd : (L s).drop m = cur ++ rest) (hm : m ≤ s.size) (hall : cur.all lbC = true) {long : Bool} {R : Int}
  (h : Ev (fun k => postriderref05_Domain.l0 k s (long || decide (63 < cur.length)) ((m + cur.length + 1 : Nat) : Int) ((m + cur.length + 1 : Nat) : Int)) R) :
  Ev (fun k => postriderref05_Domain.j2 k s long (m : Int) ((m + cur.length : Nat) : Int) false) (if lbB cur = true then R else 5) := by
 have hsz : m + (cur.length + rest.length) = s.size := by
  have := drop_size hd hm
  rwa [List.length_append] at this
 have j5 : Ev (fun k => postriderref05_Domain.j3 k s long (m : Int) ((m + cur.length : Nat) : Int) true) 5 := Ev.eq (f := fun _ => some 5) (fun k => by simp only [postriderref05_Domain.j3, if_true]) (Ev.pure _)
 have jn : Ev (fun k => postriderref05_Domain.j3 k s long (m : Int) ((m + cur.length : Nat) : Int) false) R := by
  refine Ev.eq (f := fun k => postriderref05_Domain.l0 k s (long || decide (63 < cur.length)) ((m + cur.length + 1 : Nat) : Int) ((m + cur.length + 1 : Nat) : Int)) (fun k => ?_) h
  simp only [postriderref05_Domain.j3, Bool.false_eq_true, if_false]
  rw [w1 (n := m + cur.length) (m := m + cur.length + 1) (by omega) (by omega), wk (by omega) (by omega)]
  by_cases h63 : 63 < cur.length
  ·rw [if_pos (by omega), decide_eq_true h63, Bool.or_true]
  ·rw [if_neg (by omega), decide_eq_false h63, Bool.or_false]
 by_cases he : cur = []
 ·subst he
  refine Ev.eq (f := fun k => postriderref05_Domain.j3 k s long (m : Int) ((m + ([] : List UInt8).length : Nat) : Int) true) (fun k => ?_) j5
  simp only [postriderref05_Domain.j2, Bool.false_eq_true, if_false]
  rw [if_pos (by simp)]
 ·obtain ⟨x, t, hx⟩ := List.exists_cons_of_ne_nil he
  have hb0 : bt s (m : Int) = (x.toNat : Int) := bt_of (l := t ++ rest) (by rw [hd, hx]; rfl)
  have hpos : 1 ≤ cur.length := by rw [hx]; simp
  have hlast : bt s ((m + cur.length - 1 : Nat) : Int) = ((cur.getLast he).toNat : Int) := by
   refine bt_of (l := rest) ?_
   rw [show m + cur.length - 1 = m + (cur.length - 1) by omega, ← List.drop_drop, hd, List.drop_append_of_le_length (by omega), drop_lastL he]
   rfl
  have e45 : ((45 : UInt8).toNat : Int) = 45 := rfl
  have q1 := c_eq x 45
  have q2 := c_eq (cur.getLast he) 45
  rw [e45] at q1 q2
  have hh : cur.head? = some x := by rw [hx]; rfl
  have hi : cur.isEmpty = false := by rw [hx]; rfl
  have hlb : lbB cur = ((some x != some 45) && (some (cur.getLast he) != some 45)) := by
   unfold lbB
   rw [hi, hall, hh, List.getLast?_eq_some_getLast he]; rfl
  have hne : ¬ ((m + cur.length : Nat) : Int) = (m : Int) := by omega
  have hw : wrap64 (((m + cur.length : Nat) : Int) - 1) = ((m + cur.length - 1 : Nat) : Int) := by rw [wk (by omega) (by omega)]; omega
  by_cases h1 : x = 45
  ·have : lbB cur = false := by rw [hlb, h1]; rfl
   rw [this]
   refine Ev.eq (f := fun k => postriderref05_Domain.j3 k s long (m : Int) ((m + cur.length : Nat) : Int) true) (fun k => ?_) j5
   simp only [postriderref05_Domain.j2, Bool.false_eq_true, if_false]
   rw [if_neg hne, if_pos (by omega), if_pos (by omega), hb0, if_pos (q1.2 h1)]
  ·by_cases h2 : cur.getLast he = 45
   ·have : lbB cur = false := by rw [hlb, h2]; simp
    rw [this]
    refine Ev.eq (f := fun k => postriderref05_Domain.j3 k s long (m : Int) ((m + cur.length : Nat) : Int) true) (fun k => ?_) j5
    simp only [postriderref05_Domain.j2, Bool.false_eq_true, if_false]
    rw [if_neg hne, if_pos (by omega), if_pos (by omega), hb0, if_neg (fun e => h1 (q1.1 e)), hw, if_pos (by omega), if_pos (by omega), hlast, beq_iff_eq.2 (q2.2 h2)]
   ·have : lbB cur = true := by rw [hlb]; simp [h1, h2]
    rw [this, if_pos rfl]
    refine Ev.eq (f := fun k => postriderref05_Domain.j3 k s long (m : Int) ((m + cur.length : Nat) : Int) false) (fun k => ?_) jn
    simp only [postriderref05_Domain.j2, Bool.false_eq_true, if_false]
    rw [if_neg hne, if_pos (by omega), if_pos (by omega), hb0, if_neg (fun e => h1 (q1.1 e)), hw, if_pos (by omega), if_pos (by omega), hlast, beq_eq_false_iff_ne.2 (fun e => h2 (q2.1 e))]
def rsD (ps : List (List UInt8)) (long : Bool) : Int := if ps.all lbB = true then (if (long || ps.any fun p => decide (63 < p.length)) = true then 3 else 0) else 5
theorem rsD_cons (p : List UInt8) (ps : List (List UInt8)) (long : Bool) : rsD (p :: ps) long = if lbB p = true then rsD ps (long || decide (63 < p.length)) else 5 := by
 unfold rsD
 rw [List.all_cons, List.any_cons]
 cases lbB p with
 | true => rw [Bool.true_and, Bool.or_assoc, if_pos rfl]
 | false => simp
theorem dom_l0 {s : ByteArray} (hs : s.size ≤ 1000000) : ∀ (l cur : List UInt8) (m : Nat) (long : Bool), (L s).drop m = cur ++ l → m ≤ s.size → cur.all lbC = true →
  Ev (fun k => postriderref05_Domain.l0 k s long (m : Int) ((m + cur.length : Nat) : Int)) (rsD (spL 46 l cur) long)
 | [], cur, m, long, hd, hm, hall => by
  have hsz : m + (cur.length + 0) = s.size := by
   have := drop_size hd hm
   rwa [List.length_append] at this
  have hend : Ev (fun k => postriderref05_Domain.l0 k s (long || decide (63 < cur.length)) ((m + cur.length + 1 : Nat) : Int) ((m + cur.length + 1 : Nat) : Int)) (rsD [] (long || decide (63 < cur.length))) := by
   refine Ev.eq (f := fun _ => some (rsD [] (long || decide (63 < cur.length)))) (fun k => ?_) (Ev.pure _)
   simp only [postriderref05_Domain.l0]
   rw [if_neg (by omega)]
   unfold rsD
   simp only [List.all_nil, List.any_nil, if_true, Bool.or_false]
   split <;> rfl
  have := seg_end hs hd hm hall hend
  rw [show spL 46 [] cur = [cur] from rfl, rsD_cons]
  refine Ev.eq (f := fun k => postriderref05_Domain.j2 k s long (m : Int) ((m + cur.length : Nat) : Int) false) (fun k => ?_) this
  simp only [postriderref05_Domain.l0]
  rw [if_pos (by omega), if_neg (by omega)]
 | c :: t, cur, m, long, hd, hm, hall => by
  have hsz : m + (cur.length + (t.length + 1)) = s.size := by
   have := drop_size hd hm
   rwa [List.length_append, List.length_cons] at this
  have hdi : (L s).drop (m + cur.length) = c :: t := by
   rw [← List.drop_drop, hd, List.drop_left]
  have hb : bt s ((m + cur.length : Nat) : Int) = (c.toNat : Int) := bt_of hdi
  have e46 : ((46 : UInt8).toNat : Int) = 46 := rfl
  have q := c_eq c 46
  rw [e46] at q
  by_cases hc : c = 46
  ·have ih := dom_l0 hs t [] (m + cur.length + 1) (long || decide (63 < cur.length)) (drop_next hdi) (by omega) rfl
   have hse := seg_end hs hd hm hall ih
   have e : spL 46 (c :: t) cur = cur :: spL 46 t [] := by rw [show spL 46 (c :: t) cur = if c = 46 then cur :: spL 46 t [] else spL 46 t (cur ++ [c]) from rfl, if_pos hc]
   rw [e, rsD_cons]
   refine Ev.eq (f := fun k => postriderref05_Domain.j2 k s long (m : Int) ((m + cur.length : Nat) : Int) false) (fun k => ?_) hse
   simp only [postriderref05_Domain.l0]
   rw [if_pos (by omega), if_pos (by omega), if_pos (by omega), hb, bne_eq_false_iff_eq.2 (q.2 hc)]
  ·have e : spL 46 (c :: t) cur = spL 46 t (cur ++ [c]) := by rw [show spL 46 (c :: t) cur = if c = 46 then cur :: spL 46 t [] else spL 46 t (cur ++ [c]) from rfl, if_neg hc]
   rw [e]
   refine Ev.eq (f := fun k => postriderref05_Domain.j2 k s long (m : Int) ((m + cur.length : Nat) : Int) true) (fun k => ?_) ?_
   ·simp only [postriderref05_Domain.l0]
    rw [if_pos (by omega), if_pos (by omega), if_pos (by omega), hb]
    have : (((c.toNat : Int)) != 46) = true := by simpa using fun h => hc (q.1 h)
    rw [this]
   ·by_cases hl : lbC c = true
    ·have ih := dom_l0 hs t (cur ++ [c]) m long (by rw [hd]; simp) hm (by rw [List.all_append, hall]; simpa using hl)
     rw [List.length_append, List.length_singleton] at ih
     refine Ev.eq (f := fun k => postriderref05_Domain.l0 k s long (m : Int) ((m + (cur.length + 1) : Nat) : Int)) (fun k => ?_) ih
     simp only [postriderref05_Domain.j2, if_true]
     rw [if_pos (by omega), if_pos (by omega), hb, le_f, Option.bind_some, w1 (n := m + cur.length) (m := m + cur.length + 1) (by omega) (by omega)]
     unfold lbC at hl
     cases hle : leC c with
     | true => rw [if_pos rfl]; rfl
     | false =>
      rw [hle, Bool.false_or, beq_iff_eq] at hl
      rw [if_neg (by simp), if_pos (by rw [hl]; rfl)]; rfl
    ·have hb2 : rsD (spL 46 t (cur ++ [c])) long = 5 := by
      have hcl : [c].all lbC = false := by simpa using hl
      unfold rsD
      rw [sp_badD t _ (by rw [List.all_append, hcl, Bool.and_false])]
      simp
     rw [hb2]
     refine Ev.eq (f := fun _ => some 5) (fun k => ?_) (Ev.pure _)
     simp only [postriderref05_Domain.j2, if_true]
     rw [if_pos (by omega), if_pos (by omega), hb, le_f, Option.bind_some]
     unfold lbC at hl
     simp only [Bool.or_eq_true, beq_iff_eq, not_or] at hl
     rw [Bool.eq_false_iff.mpr hl.1, if_neg (by simp), if_neg]
     have e45 : ((45 : UInt8).toNat : Int) = 45 := rfl
     have q4 := c_eq c 45
     rw [e45] at q4
     exact fun h => hl.2 (q4.1 h)
theorem lit_l0 {xs : List ByteArray} (h4 : xs.length = 4) (hx : ∀ x ∈ xs, x.size ≤ 1000000) : ∀ (d j : Nat), j + d = 4 → Ev (fun k => postriderref05_literal.l0 k xs (j : Int)) ((xs.drop j).all fun x => ocB (L x))
 | 0, j, h => by
  rw [List.drop_of_length_le (by omega)]
  exact Ev.eq (f := fun _ => some true) (fun k => by simp only [postriderref05_literal.l0]; rw [if_neg (by omega)]) (Ev.pure _)
 | d + 1, j, h => by
  have hj : j < xs.length := by omega
  have ih := lit_l0 h4 hx d (j + 1) (by omega)
  have hr : rdOf ByteArray.empty xs (j : Int) = xs[j]'hj := by simp [rdOf, hj]
  rw [List.drop_eq_getElem_cons hj, List.all_cons]
  obtain ⟨x, hxe⟩ : ∃ x, x = xs[j]'hj := ⟨_, rfl⟩
  have hxs : x.size ≤ 1000000 := hx x (by rw [hxe]; exact List.getElem_mem hj)
  rw [← hxe] at hr ⊢
  have hl := L_len x
  refine Ev.eq (f := fun k => (postriderref04_Number.f k x 3).bind fun bt250 => (if bt250.2 = 0 then (if bt250.1 > 255 then (some false) else (if (x.size : Int) > 1 then (if 0 < (x.size : Int) then (if (bt x 0) = 48 then (some false) else (postriderref05_literal.l0 k xs ((j + 1 : Nat) : Int))) else (none)) else (postriderref05_literal.l0 k xs ((j + 1 : Nat) : Int)))) else (some false))) (fun k => ?_) ?_
  ·simp only [postriderref05_literal.l0]
   rw [if_pos (by omega), if_pos (by omega), if_pos (by omega), hr, w1 (n := j) (m := 4) (by omega) (by omega)]
  ·refine Ev.bind2 (ref_number_f (s := x) (by omega) 3) ?_
   have hok : numOK x 3 = (!(L x).isEmpty && decide ((L x).length ≤ 3) && (L x).all digB) := by
    unfold numOK
    rw [← digs, hl]
    show (!(L x).isEmpty && decide ((x.size : Int) ≤ max 1 (min 3 15)) && (L x).all digC) = _
    congr 2
    exact decide_eq_decide.mpr (by omega)
   rw [hok]
   unfold ocB
   cases hb : (!(L x).isEmpty && decide ((L x).length ≤ 3) && (L x).all digB) with
   | false => simp only [Bool.false_eq_true, if_false, Bool.false_and]; exact Ev.cong (f := fun _ => some false) (fun k => if_neg (by decide)) (Ev.pure _)
   | true =>
    simp only [if_true, Bool.true_and, numL_val]
    by_cases hv : valL (L x) ≤ 255
    ·refine Ev.cong (fun k => if_neg (by omega)) ?_
     rw [decide_eq_true hv, Bool.true_and]
     by_cases h1 : (L x).length ≤ 1
     ·refine Ev.cong (fun k => if_neg (by omega)) ?_
      rw [decide_eq_true h1, Bool.true_or, Bool.true_and]
      exact ih
     ·refine Ev.cong (fun k => if_pos (by omega)) ?_
      refine Ev.cong (fun k => if_pos (by omega)) ?_
      obtain ⟨c, t, hc⟩ : ∃ c t, L x = c :: t := List.exists_cons_of_ne_nil (by intro e; rw [e] at h1; simp at h1)
      have hb0 : bt x 0 = (c.toNat : Int) := bt_of (n := 0) (by rw [hc]; rfl)
      have e48 : ((48 : UInt8).toNat : Int) = 48 := rfl
      have q := c_eq c 48
      rw [e48] at q
      rw [decide_eq_false h1, Bool.false_or, hb0, hc, List.head?_cons]
      by_cases h48 : c = 48
      ·refine Ev.cong (fun k => if_pos (q.2 h48)) ?_
       rw [h48]; exact Ev.pure _
      ·refine Ev.cong (fun k => if_neg (fun e => h48 (q.1 e))) ?_
       have : ((some c != some 48) : Bool) = true := by simp [h48]
       rw [this, Bool.true_and]
       exact ih
    ·refine Ev.cong (fun k => if_pos (by omega)) ?_
     rw [decide_eq_false hv, Bool.false_and, Bool.false_and]
     exact Ev.pure _
theorem lit_f {s : ByteArray} (hs : s.size ≤ 1000000) (h0 : (L s).head? = some 91) : Ev (fun k => postriderref05_literal.f k s) (decide (2 ≤ (L s).length) && decide ((L s).getLast? = some 93) && liB (L s).tail.dropLast) := by
 have hl := L_len s
 have jt : ∀ k, postriderref05_literal.j0 (k + 1) s true = some false := fun k => by simp only [postriderref05_literal.j0, if_true]
 have jT : Ev (fun k => postriderref05_literal.j0 k s true) false := Ev.eq jt (Ev.pure _)
 unfold postriderref05_literal.f
 by_cases h2 : 2 ≤ (L s).length
 ·refine Ev.cong (fun k => if_neg (by omega)) ?_
  refine Ev.cong (fun k => if_pos (by omega)) ?_
  obtain ⟨t, ht⟩ : ∃ t, L s = 91 :: t := by
   cases hd : L s with
   | nil => rw [hd] at h0; cases h0
   | cons x t => rw [hd] at h0; simp at h0; exact ⟨t, by rw [h0]⟩
  have hb0 : bt s 0 = ((91 : UInt8).toNat : Int) := bt_of (n := 0) (by rw [ht]; rfl)
  have hne : L s ≠ [] := by rw [ht]; simp
  have hw : wrap64 ((s.size : Int) - 1) = ((s.size - 1 : Nat) : Int) := by rw [wk (by omega) (by omega)]; omega
  have hlast : bt s ((s.size - 1 : Nat) : Int) = (((L s).getLast hne).toNat : Int) := bt_of (l := []) (by rw [← hl]; exact drop_lastL hne)
  have e93 : ((93 : UInt8).toNat : Int) = 93 := rfl
  have q := c_eq ((L s).getLast hne) 93
  rw [e93] at q
  rw [hb0, hw]
  refine Ev.cong (fun k => if_pos rfl) ?_
  refine Ev.cong (fun k => if_pos (by omega)) ?_
  refine Ev.cong (fun k => if_pos (by omega)) ?_
  rw [hlast, decide_eq_true h2, Bool.true_and, List.getLast?_eq_some_getLast hne]
  by_cases h93 : (L s).getLast hne = 93
  ·rw [bne_eq_false_iff_eq.2 (q.2 h93), h93, decide_eq_true rfl, Bool.true_and]
   refine Ev.eq (f := fun k => (postriderref04_Split.f k (B (L s).tail.dropLast) 46).bind fun t246 => (if (t246.length : Int) = 4 then (postriderref05_literal.l0 k t246 0) else (some false))) (fun k => ?_) ?_
   ·simp only [postriderref05_literal.j0, Bool.false_eq_true, if_false]
    rw [hw, if_pos (by omega), if_pos (by omega), Int.toNat_natCast]
    have : s.extract 1 (s.size - 1) = B (L s).tail.dropLast := by
     rw [ext_B, List.drop_one, List.dropLast_eq_take, List.length_tail, hl]
    rw [this]
   ·have hsp := ref_split_f (s := B (L s).tail.dropLast) (c := 46) (by rw [B_size, List.length_dropLast, List.length_tail]; omega)
    rw [L_B] at hsp
    refine Ev.bind2 hsp ?_
    unfold liB partsL
    by_cases h4 : (spL 46 (L s).tail.dropLast []).length = 4
    ·refine Ev.cong (fun k => if_pos (by rw [List.length_map]; omega)) ?_
     rw [decide_eq_true h4, Bool.true_and]
     have := lit_l0 (xs := (spL 46 (L s).tail.dropLast []).map B) (by rw [List.length_map]; exact h4) (fun x hx => by
      obtain ⟨p, hp, rfl⟩ := List.mem_map.1 hx
      have := parts_small (l := (L s).tail.dropLast) hp
      rw [B_size]; rw [List.length_dropLast, List.length_tail] at this; omega) 4 0 rfl
     rw [List.drop_zero, List.all_map] at this
     have e : (fun x => ocB (L x)) ∘ B = ocB := by funext x; simp [L_B]
     rw [e] at this
     exact this
    ·refine Ev.cong (fun k => if_neg (by rw [List.length_map]; omega)) ?_
     rw [decide_eq_false h4, Bool.false_and]
     exact Ev.pure _
  ·have : ((((L s).getLast hne).toNat : Int) != 93) = true := by simpa using fun e => h93 (q.1 e)
   rw [this, decide_eq_false (fun e => h93 (Option.some.inj e)), Bool.false_and]
   exact jT
 ·refine Ev.cong (fun k => if_pos (by omega)) ?_
  rw [decide_eq_false h2, Bool.false_and, Bool.false_and]
  exact jT
theorem ref_domain_f {s : ByteArray} (hs : s.size ≤ 1000000) : Ev (fun k => postriderref05_Domain.f k s) (dmL (L s) : Int) := by
 have hl := L_len s
 unfold postriderref05_Domain.f
 have jf : ¬ (L s).head? = some 91 → Ev (fun k => postriderref05_Domain.j0 k s false) (dmL (L s) : Int) := by
  intro h
  have := dom_l0 hs (L s) [] 0 (decide ((s.size : Int) > 255)) rfl (by omega) rfl
  refine Ev.eq (f := fun k => postriderref05_Domain.l0 k s (decide ((s.size : Int) > 255)) 0 0) (fun k => by simp only [postriderref05_Domain.j0, Bool.false_eq_true, if_false]) ?_
  have e : rsD (spL 46 (L s) []) (decide ((s.size : Int) > 255)) = (dmL (L s) : Int) := by
   unfold rsD dmL partsL
   rw [if_neg h]
   split
   ·have e1 : decide ((s.size : Int) > 255) = decide (255 < (L s).length) := decide_eq_decide.mpr (by omega)
    rw [e1]
    by_cases h2 : 255 < (L s).length
    ·simp [h2]
    ·rw [decide_eq_false h2, Bool.false_or]
     split
     ·rename_i h3; rw [if_pos (.inr h3)]; rfl
     ·rename_i h3; rw [if_neg (by simp only [not_or]; exact ⟨h2, h3⟩)]; rfl
   ·rfl
  rw [← e]; exact this
 by_cases h0 : 0 < s.size
 ·refine Ev.cong (fun k => if_pos (by omega)) ?_
  refine Ev.cong (fun k => if_pos (by omega)) ?_
  obtain ⟨c, t, hc⟩ : ∃ c t, L s = c :: t := List.exists_cons_of_ne_nil (by intro e; rw [e] at hl; simp at hl; omega)
  have hb0 : bt s 0 = (c.toNat : Int) := bt_of (n := 0) (by rw [hc]; rfl)
  have e91 : ((91 : UInt8).toNat : Int) = 91 := rfl
  have q := c_eq c 91
  rw [e91] at q
  rw [hb0]
  by_cases h91 : c = 91
  ·have hh : (L s).head? = some 91 := by rw [hc, h91]; rfl
   rw [beq_iff_eq.2 (q.2 h91)]
   refine Ev.eq (f := fun k => (postriderref05_literal.f k s).bind fun t254 => (if t254 = true then (some 0) else (some 5))) (fun k => by simp only [postriderref05_Domain.j0, if_true]) ?_
   refine Ev.bind2 (lit_f hs hh) ?_
   have e : (dmL (L s) : Int) = if (decide (2 ≤ (L s).length) && decide ((L s).getLast? = some 93) && liB (L s).tail.dropLast) = true then 0 else 5 := by
    unfold dmL
    rw [if_pos hh]
    by_cases h : 2 ≤ (L s).length ∧ (L s).getLast? = some 93 ∧ liB (L s).tail.dropLast = true
    ·rw [if_pos h, if_pos (by simp [h.1, h.2.1, h.2.2])]; rfl
    ·rw [if_neg h, if_neg (by simp only [Bool.and_eq_true, decide_eq_true_eq]; exact fun x => h ⟨x.1.1, x.1.2, x.2⟩)]; rfl
   rw [e]
   cases (decide (2 ≤ (L s).length) && decide ((L s).getLast? = some 93) && liB (L s).tail.dropLast) with
   | true => exact Ev.pure _
   | false => exact Ev.pure _
  ·rw [beq_eq_false_iff_ne.2 (fun e => h91 (q.1 e))]
   exact jf (by rw [hc]; simpa using h91)
 ·refine Ev.cong (fun k => if_neg (by omega)) ?_
  have : L s = [] := List.eq_nil_of_length_eq_zero (by omega)
  exact jf (by rw [this]; simp)
end Go.Proofs.YtgelfnjicglmbaaGreatDoor.S

