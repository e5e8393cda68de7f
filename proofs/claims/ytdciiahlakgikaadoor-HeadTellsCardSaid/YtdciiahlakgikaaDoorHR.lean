/- The document's look at a message's text: what its functions come to. -/
import Derived.Test.YtdciiahlakgikaaDoorHP
import Derived.Test.YtdciiahlakgikaaDoorQx9
import Derived.Test.YtdciiahlakgikaaDoorQx7
namespace Go.Proofs.YtdciiahlakgikaaDoor.S
open Go.RowKit Go.Proofs.YtdciiahlakgikaaDoor.Q Go.Proofs.YtdciiahlakgikaaDoorW.PrintWords Go.Proofs.YtdciiahlakgikaaDoorW.PrintLast Go.Proofs.YtdciiahlakgikaaDoorW.PrintMore
set_option linter.unusedVariables false
set_option linter.unusedSimpArgs false
theorem ref_right_f (c : UInt8) : postriderref07_right.f (c.toNat : Int) = some (rgC c) := by
  unfold postriderref07_right.f
  have h := rg_num c
  by_cases h9 : c.toNat = 9
  · rw [if_pos (by omega), h.2 (.inl h9)]
  · rw [if_neg (by omega)]
    by_cases h32 : 32 ≤ c.toNat
    · rw [if_pos (by omega)]
      by_cases h127 : c.toNat = 127
      · have : rgC c = false := by rw [Bool.eq_false_iff]; intro hh; have := h.1 hh; omega
        rw [this, bne_eq_false_iff_eq.2 (show (c.toNat : Int) = 127 by omega)]
      · rw [h.2 (.inr ⟨h32, h127⟩), bne_iff_ne.2 (show (c.toNat : Int) ≠ 127 by omega)]
    · have : rgC c = false := by rw [Bool.eq_false_iff]; intro hh; have := h.1 hh; omega
      rw [if_neg (by omega), this]
theorem ref_white_f (c : UInt8) : postriderref07_white.f (c.toNat : Int) = some (blC c) := by
  unfold postriderref07_white.f
  have h := bl_num c
  by_cases h9 : (c.toNat : Int) = 9
  · rw [if_pos h9, h.2 (.inr h9)]
  · rw [if_neg h9]
    by_cases h32 : (c.toNat : Int) = 32
    · rw [h.2 (.inl h32), beq_iff_eq.2 h32]
    · have : blC c = false := by rw [Bool.eq_false_iff]; intro hh; rcases h.1 hh with e | e <;> contradiction
      rw [this, beq_eq_false_iff_ne.2 h32]
theorem line_hit {s : ByteArray} (hs : s.size ≤ 70368744177) : ∀ (a t : List UInt8) (n : Nat), (L s).drop n = a ++ (13 :: 10 :: t) → rgL a = true → Ev (fun k => postriderref07_line.l0 k s (n : Int)) ((n + a.length : Nat) : Int) := by
  intro a
  induction a with
  | nil =>
    intro t n hd _
    have hd' : (L s).drop n = 13 :: 10 :: t := hd
    have hlt := drop_lt hd'
    have hb := bt_of hd'
    have hd2 := drop_next hd'
    have hlt2 := drop_lt hd2
    have hb2 := bt_of hd2
    have ew := w1 hlt (by omega)
    refine Ev.eq (f := fun _ => some _) (fun k => ?_) (Ev.pure _)
    simp only [postriderref07_line.l0]
    rw [if_pos (by omega), if_pos (by omega), hb, ref_right_f, Option.bind_some, rg13, ew, hb2, if_neg (by simp), if_pos (by omega), if_pos (by decide), if_pos (by omega), if_pos (by decide)]
    simp
  | cons c a ih =>
    intro t n hd hr
    have hr' : rgC c = true ∧ rgL a = true := by simpa [rgL] using hr
    have hd' : (L s).drop n = c :: (a ++ (13 :: 10 :: t)) := hd
    have hlt := drop_lt hd'
    have hb := bt_of hd'
    have ew := w1 hlt (by omega)
    have := ih t (n + 1) (drop_next hd') hr'.2
    rw [show n + 1 + a.length = n + (c :: a).length by simp; omega] at this
    refine Ev.eq (f := fun k => postriderref07_line.l0 k s ((n + 1 : Nat) : Int)) (fun k => ?_) this
    simp only [postriderref07_line.l0]
    rw [if_pos (by omega), if_pos (by omega), hb, ref_right_f, Option.bind_some, hr'.1, if_pos rfl, ew]
theorem line_miss {s : ByteArray} (hs : s.size ≤ 70368744177) : ∀ (l : List UInt8) (n : Nat), (L s).drop n = l → n ≤ s.size → (∀ a t, rgL a = true → l ≠ a ++ (13 :: 10 :: t)) → Ev (fun k => postriderref07_line.l0 k s (n : Int)) (-1) := by
  intro l
  induction l with
  | nil =>
    intro n hd hn _
    have := drop_end hd
    refine Ev.eq (f := fun _ => some _) (fun k => ?_) (Ev.pure _)
    simp only [postriderref07_line.l0]
    rw [if_neg (by omega), wk (by omega) (by omega), if_neg (by omega)]
  | cons c l ih =>
    intro n hd hn hno
    have hlt := drop_lt hd
    have hb := bt_of hd
    have ew := w1 hlt (by omega)
    have hd2 := drop_next hd
    by_cases hr : rgC c = true
    · refine Ev.eq (f := fun k => postriderref07_line.l0 k s ((n + 1 : Nat) : Int)) (fun k => ?_) (ih (n + 1) hd2 (by omega) (fun a t ha he => hno (c :: a) t (by simpa [rgL, hr] using ha) (by rw [he]; rfl)))
      simp only [postriderref07_line.l0]
      rw [if_pos (by omega), if_pos (by omega), hb, ref_right_f, Option.bind_some, hr, if_pos rfl, ew]
    · have hr' : rgC c = false := by simpa using hr
      refine Ev.eq (f := fun _ => some _) (fun k => ?_) (Ev.pure _)
      simp only [postriderref07_line.l0]
      rw [if_pos (by omega), if_pos (by omega), hb, ref_right_f, Option.bind_some, hr', if_neg (by simp), ew]
      cases l with
      | nil =>
        have := drop_end hd2
        rw [if_neg (by omega)]
      | cons d l' =>
        have hlt2 := drop_lt hd2
        have hb2 := bt_of hd2
        rw [if_pos (by omega), hb2]
        by_cases h13 : (c.toNat : Int) = 13
        · rw [if_pos h13, if_pos (by omega)]
          by_cases h10 : (d.toNat : Int) = 10
          · exfalso
            have e1 := (c_eq c 13).1 h13
            have e2 := (c_eq d 10).1 h10
            exact hno [] l' rfl (by rw [e1, e2]; rfl)
          · rw [if_neg h10]
        · rw [if_neg h13]
theorem ref_named_l0 {s : ByteArray} (hs : s.size ≤ 70368744177) : ∀ (l : List UInt8) (n : Nat), (L s).drop n = l → n ≤ s.size → Ev (fun k => postriderref07_Named.l0 k s (n : Int)) (l.all fnC && !(L s).isEmpty) := by
  intro l
  induction l with
  | nil =>
    intro n hd hn
    have := drop_end hd
    refine Ev.eq (f := fun _ => some _) (fun k => ?_) (Ev.pure _)
    simp only [postriderref07_Named.l0]
    rw [if_neg (by omega)]
    have hl := L_len s
    cases hL : L s with
    | nil => rw [hL] at hl; simp at hl; rw [decide_eq_false (by omega)]; rfl
    | cons x y => rw [hL] at hl; simp at hl; rw [decide_eq_true (by omega)]; rfl
  | cons c l ih =>
    intro n hd hn
    have hlt := drop_lt hd
    have hb := bt_of hd
    have ew := w1 hlt (by omega)
    have hc := fn_num c
    by_cases c1 : fnC c = true
    · refine Ev.eq (f := fun k => postriderref07_Named.l0 k s ((n + 1 : Nat) : Int)) (fun k => ?_) ?_
      · have h := hc.1 c1
        simp only [postriderref07_Named.l0]
        rw [if_pos (by omega), if_pos (by omega), hb, ew, if_neg (by omega), if_neg (by omega), if_neg (by omega)]
      · have := ih (n + 1) (drop_next hd) (by omega)
        simpa [c1] using this
    · refine Ev.eq (f := fun _ => some _) (fun k => ?_) (Ev.pure _)
      have h2 : ¬ (33 ≤ c.toNat ∧ c.toNat ≤ 126 ∧ c.toNat ≠ 58) := fun h => c1 (hc.2 h)
      have hr : ((c :: l).all fnC && !(L s).isEmpty) = false := by simp [c1]
      simp only [postriderref07_Named.l0]
      rw [if_pos (by omega), if_pos (by omega), hb, hr]
      by_cases h3 : c.toNat < 33
      · rw [if_pos (by omega)]
      · by_cases h4 : c.toNat > 126
        · rw [if_neg (by omega), if_pos (by omega)]
        · rw [if_neg (by omega), if_neg (by omega), if_pos (by omega)]
theorem ref_named_f {s : ByteArray} (hs : s.size ≤ 70368744177) : Ev (fun k => postriderref07_Named.f k s) (fnL (L s)) := by
  have := ref_named_l0 hs (L s) 0 rfl (by omega)
  rw [Bool.and_comm] at this
  exact this
/-! ### A field -/
def kpC (c : UInt8) : Bool := c != 13 && c != 10
theorem kp_rg {c : UInt8} (h : rgC c = true) : kpC c = true := by
  unfold kpC
  have h1 : c ≠ 13 := fun e => by rw [e, rg13] at h; cases h
  have h2 : c ≠ 10 := fun e => by rw [e, rg10] at h; cases h
  simp [h1, h2]
theorem kp_all {a : List UInt8} (h : rgL a = true) : a.filter kpC = a := List.filter_eq_self.2 (fun c hc => kp_rg (List.all_eq_true.1 h c hc))
theorem kp_flat : ∀ ls : List (List UInt8), (∀ a ∈ ls, rgL a = true) → (flat ls).filter kpC = ls.flatten
  | [], _ => rfl
  | a :: t, h => by
    rw [flat_cons, List.filter_append, kp_all (h a (by simp)), List.flatten_cons]
    congr 1
    exact kp_flat t (fun b hb => h b (List.mem_cons_of_mem _ hb))
theorem val_l2 {s : ByteArray} (hs : s.size ≤ 1000000) (e : Nat) (he : e ≤ s.size) : ∀ (l out : List UInt8) (n : Nat), (L s).drop n = l → n ≤ s.size → out.length ≤ n →
    Ev (fun k => postriderref07_field.l2 k s (e : Int) (B out) (n : Int)) (B ((L s).take e), B (trimL (out ++ l.filter kpC)), s, true) := by
  intro l
  induction l with
  | nil =>
    intro out n hd hn ho
    have := drop_end hd
    refine Ev.eq (f := fun k => (postriderref04_Trim.f k (B out)).bind fun t183 => (some (s.extract 0 (e : Int).toNat, t183, s, true))) (fun k => ?_) ?_
    · simp only [postriderref07_field.l2]
      rw [if_neg (by omega), if_pos (by omega), if_pos (by omega)]
    · refine Ev.bind2 (ref_trim_f (by rw [B_size]; omega)) ?_
      rw [L_B, Int.toNat_natCast, ext_B, Nat.sub_zero, List.drop_zero]
      simp only [List.filter_nil, List.append_nil]
      exact Ev.pure _
  | cons c l ih =>
    intro out n hd hn ho
    have hlt := drop_lt hd
    have hb := bt_of hd
    have ew := w1 hlt (by omega)
    by_cases h13 : c = 13
    · have := ih out (n + 1) (drop_next hd) (by omega) (by omega)
      refine Ev.eq (f := fun k => postriderref07_field.l2 k s (e : Int) (B out) ((n + 1 : Nat) : Int)) (fun k => ?_) (by rw [List.filter_cons, show kpC c = false by rw [h13]; rfl]; exact this)
      simp only [postriderref07_field.l2]
      rw [if_pos (by omega), if_pos (by omega), hb, h13, if_pos (by decide), ew]
    · by_cases h10 : c = 10
      · have := ih out (n + 1) (drop_next hd) (by omega) (by omega)
        refine Ev.eq (f := fun k => postriderref07_field.l2 k s (e : Int) (B out) ((n + 1 : Nat) : Int)) (fun k => ?_) (by rw [List.filter_cons, show kpC c = false by rw [h10]; rfl]; exact this)
        simp only [postriderref07_field.l2]
        rw [if_pos (by omega), if_pos (by omega), hb, h10, if_neg (by decide), if_pos (by decide), ew]
      · have hk : kpC c = true := by simp [kpC, h13, h10]
        have := ih (out ++ [c]) (n + 1) (drop_next hd) (by omega) (by simp; omega)
        have n13 : ¬ (c.toNat : Int) = 13 := fun h => h13 ((c_eq c 13).1 h)
        have n10 : ¬ (c.toNat : Int) = 10 := fun h => h10 ((c_eq c 10).1 h)
        have hcut : s.extract ((n : Int)).toNat (((n + 1 : Nat) : Int)).toNat = B [c] := by rw [Int.toNat_natCast, Int.toNat_natCast]; exact cut1 hd
        refine Ev.eq (f := fun k => postriderref07_field.l2 k s (e : Int) (B (out ++ [c])) ((n + 1 : Nat) : Int)) (fun k => ?_) (by rw [List.filter_cons, if_pos hk]; simpa using this)
        simp only [postriderref07_field.l2]
        rw [if_pos (by omega), if_pos (by omega), hb, if_neg n13, if_neg n10, ew, if_pos (by omega), if_pos (by omega), hcut, B_app, B_size, B_size, if_pos (by rw [List.length_cons, List.length_nil]; omega)]
/-- Back over blanks to the name's end. -/
theorem name_l1 {s : ByteArray} (hs : s.size ≤ 1000000) {at_ : Nat} (hat : at_ < s.size) {R : ByteArray × ByteArray × ByteArray × Bool} : ∀ (e : Nat), e ≤ s.size →
    Ev (fun k => postriderref07_field.j4 k s (at_ : Int) ((rdL ((L s).take e)).length : Int)) R → Ev (fun k => postriderref07_field.l1 k s (at_ : Int) (e : Int)) R := by
  intro e
  induction e with
  | zero =>
    intro _ h
    refine Ev.eq (f := fun k => postriderref07_field.j4 k s (at_ : Int) ((rdL ((L s).take 0)).length : Int)) (fun k => ?_) h
    simp only [postriderref07_field.l1]
    rw [if_neg (by omega)]; rfl
  | succ e ih =>
    intro hle h
    have hl := L_len s
    have hd := List.drop_eq_getElem_cons (l := L s) (i := e) (by omega)
    have hb := bt_of hd
    have htk : (L s).take (e + 1) = (L s).take e ++ [(L s)[e]'(by omega)] := List.take_succ_eq_append_getElem (by omega)
    rw [htk, rd_snoc] at h
    have ew : wrap64 (((e + 1 : Nat) : Int) - 1) = (e : Int) := by rw [wk (by omega) (by omega)]; omega
    by_cases hw : blC ((L s)[e]'(by omega)) = true
    · rw [if_pos hw] at h
      refine Ev.eq (f := fun k => postriderref07_field.l1 k s (at_ : Int) (e : Int)) (fun k => ?_) (ih (by omega) h)
      simp only [postriderref07_field.l1]
      rw [if_pos (by omega), ew, if_pos (by omega), if_pos (by omega), hb, ref_white_f, Option.bind_some, if_pos hw]
    · rw [if_neg hw] at h
      have hlen : ((L s).take e ++ [(L s)[e]'(by omega)]).length = e + 1 := by simp only [List.length_append, List.length_take, List.length_cons, List.length_nil]; omega
      rw [hlen] at h
      refine Ev.eq (f := fun k => postriderref07_field.j4 k s (at_ : Int) ((e + 1 : Nat) : Int)) (fun k => ?_) h
      simp only [postriderref07_field.l1]
      rw [if_pos (by omega), ew, if_pos (by omega), if_pos (by omega), hb, ref_white_f, Option.bind_some, if_neg hw]
theorem rd_len (l : List UInt8) : (rdL l).length ≤ l.length := (List.isPrefixOf_iff_prefix.1 (rd_pre l)).length_le
theorem rd_take (l : List UInt8) : l.take (rdL l).length = rdL l := by
  obtain ⟨r, hr⟩ := List.isPrefixOf_iff_prefix.1 (rd_pre l)
  conv => lhs; rw [← hr]
  rw [show (rdL (rdL l ++ r)).length = (rdL l).length by rw [hr], List.take_left]
/-- The scan to the colon, or to the first line's end. -/
theorem scan_l0 {s : ByteArray} (hs : s.size ≤ 1000000) {R : ByteArray × ByteArray × ByteArray × Bool} : ∀ (p q : List UInt8) (n : Nat), (L s).drop n = p ++ q → n ≤ s.size → (∀ c ∈ p, c ≠ 58 ∧ c ≠ 13) → (∃ c q', q = c :: q' ∧ (c = 58 ∨ c = 13)) →
    Ev (fun k => postriderref07_field.j1 k s ((n + p.length : Nat) : Int)) R → Ev (fun k => postriderref07_field.l0 k s (n : Int)) R := by
  intro p
  induction p with
  | nil =>
    intro q n hd hn _ hq h
    obtain ⟨c, q', rfl, hc⟩ := hq
    have hd' : (L s).drop n = c :: q' := hd
    have hlt := drop_lt hd'
    have hb := bt_of hd'
    refine Ev.eq (f := fun k => postriderref07_field.j1 k s (n : Int)) (fun k => ?_) h
    simp only [postriderref07_field.l0]
    rw [if_pos (by omega), if_pos (by omega), hb]
    rcases hc with rfl | rfl
    · rw [if_pos (by decide)]
    · rw [if_neg (by decide), if_pos (by decide)]
  | cons c p ih =>
    intro q n hd hn hp hq h
    have hd' : (L s).drop n = c :: (p ++ q) := hd
    have hlt := drop_lt hd'
    have hb := bt_of hd'
    have ew := w1 hlt (by omega)
    have hc := hp c (by simp)
    have n58 : ¬ (c.toNat : Int) = 58 := fun h => hc.1 ((c_eq c 58).1 h)
    have n13 : ¬ (c.toNat : Int) = 13 := fun h => hc.2 ((c_eq c 13).1 h)
    have := ih q (n + 1) (drop_next hd') (by omega) (fun x hx => hp x (List.mem_cons_of_mem _ hx)) hq (by rw [show n + 1 + p.length = n + (c :: p).length by simp; omega]; exact h)
    refine Ev.eq (f := fun k => postriderref07_field.l0 k s ((n + 1 : Nat) : Int)) (fun k => ?_) this
    simp only [postriderref07_field.l0]
    rw [if_pos (by omega), if_pos (by omega), hb, if_neg n58, if_neg n13, ew]
/-- The document's field of lines. -/
theorem ref_field_f {a : List UInt8} {v : List (List UInt8)} (hr : ∀ x ∈ a :: v, rgL x = true) (hf : (flat (a :: v)).length ≤ 100000) : Ev (fun k => postriderref07_field.f k (B (flat (a :: v)))) (if fdB (a :: v) then (B (fdV (a :: v)).1, B (fdV (a :: v)).2.1, B (fdV (a :: v)).2.2, true) else (⟨#[]⟩, ⟨#[]⟩, ⟨#[]⟩, false)) := by
  have hsz : (B (flat (a :: v))).size = (flat (a :: v)).length := B_size _
  have hfc := flat_cons a v
  have hlen := congrArg List.length hfc
  simp only [List.length_append, List.length_cons] at hlen
  have hra := hr a (by simp)
  have h13 := rg_no13 hra
  show Ev (fun k => postriderref07_field.l0 k (B (flat (a :: v))) ((0 : Nat) : Int)) _
  cases h : a.all col with
  | true =>
    have hb : fdB (a :: v) = false := by
      show (a.any (· == 58) && fnL (rdL (a.takeWhile col))) = false
      rw [col_any, h]; rfl
    rw [hb]
    refine scan_l0 (by rw [hsz]; omega) a (13 :: 10 :: flat v) 0 (by rw [L_B, List.drop_zero, hfc]) (by omega) (fun c hc => ⟨fun e => col_no h (by rw [← e]; exact hc), fun e => h13 (by rw [← e]; exact hc)⟩) ⟨13, _, rfl, .inr rfl⟩ ?_
    have hbt : bt (B (flat (a :: v))) ((0 + a.length : Nat) : Int) = 13 := bt_of (c := 13) (l := 10 :: flat v) (by rw [L_B, hfc, Nat.zero_add, List.drop_left])
    refine Ev.eq (f := fun k => postriderref07_field.j2 k (B (flat (a :: v))) ((0 + a.length : Nat) : Int) true) (fun k => ?_) (Ev.eq (f := fun _ => some _) (fun k => ?_) (Ev.pure _))
    · simp only [postriderref07_field.j1]
      rw [hbt, if_neg (by omega), if_pos (by omega), if_pos (by omega)]
      rfl
    · simp only [postriderref07_field.j2, if_true]
      rfl
  | false =>
    obtain ⟨q, hq, hq2⟩ := first_colon h
    obtain ⟨p, hp⟩ : ∃ p, a.takeWhile col = p := ⟨_, rfl⟩
    have hpc : p.all col = true := by rw [← hp]; exact take_all col a
    rw [hp] at hq
    have hfl : flat (a :: v) = p ++ (58 :: (q ++ (13 :: 10 :: flat v))) := by rw [hfc, hq]; simp
    have hpl : p.length + 1 + q.length = a.length := by rw [hq]; simp; omega
    have hpm : ∀ c ∈ p, c ∈ a := fun c hc => by rw [hq]; simp [hc]
    refine scan_l0 (by rw [hsz]; omega) p (58 :: (q ++ (13 :: 10 :: flat v))) 0 (by rw [L_B, List.drop_zero, hfl]) (by omega) (fun c hc => ⟨fun e => col_no hpc (by rw [← e]; exact hc), fun e => h13 (by rw [← e]; exact hpm c hc)⟩) ⟨58, _, rfl, .inl rfl⟩ ?_
    rw [Nat.zero_add]
    have hbt : bt (B (flat (a :: v))) (p.length : Int) = 58 := bt_of (c := 58) (l := q ++ (13 :: 10 :: flat v)) (by rw [L_B, hfl, List.drop_left])
    refine Ev.eq (f := fun k => postriderref07_field.j2 k (B (flat (a :: v))) (p.length : Int) false) (fun k => ?_) (Ev.eq (f := fun k => postriderref07_field.l1 k (B (flat (a :: v))) (p.length : Int) (p.length : Int)) (fun k => ?_) ?_)
    · simp only [postriderref07_field.j1]
      rw [hbt, if_neg (by omega), if_pos (by omega), if_pos (by omega)]
      rfl
    · simp only [postriderref07_field.j2, Bool.false_eq_true, if_false]
    have htp : (L (B (flat (a :: v)))).take p.length = p := by rw [L_B, hfl, List.take_left]
    refine name_l1 (by rw [hsz]; omega) (by omega) p.length (by omega) ?_
    rw [htp]
    have hrl := rd_len p
    have hext : (B (flat (a :: v))).extract 0 (((rdL p).length : Int)).toNat = B (rdL p) := by
      rw [Int.toNat_natCast, ext_B, Nat.sub_zero, List.drop_zero, L_B, hfl, List.take_append_of_le_length hrl, rd_take]
    have hfb : fdB (a :: v) = fnL (rdL p) := by
      show (a.any (· == 58) && fnL (rdL (a.takeWhile col))) = _
      rw [col_any, h, hp]; rfl
    rw [hfb]
    refine Ev.eq (f := fun k => (postriderref07_Named.f k (B (rdL p))).bind fun t182 => (if t182 = true then (postriderref07_field.l2 k (B (flat (a :: v))) ((rdL p).length : Int) (⟨#[]⟩ : ByteArray) ((p.length + 1 : Nat) : Int)) else (some ((⟨#[]⟩ : ByteArray), (⟨#[]⟩ : ByteArray), (⟨#[]⟩ : ByteArray), false)))) (fun k => ?_) ?_
    · simp only [postriderref07_field.j4]
      rw [if_pos (by omega), if_pos (by omega), hext, w1 (n := p.length) (m := p.length + 1) (by omega) (by omega)]
    refine Ev.bind2 (ref_named_f (by rw [B_size]; omega)) ?_
    rw [L_B]
    cases hn : fnL (rdL p) with
    | false => simp only [Bool.false_eq_true, if_false]; exact Ev.pure _
    | true =>
      simp only [if_true]
      have hdr : (L (B (flat (a :: v)))).drop (p.length + 1) = q ++ (13 :: 10 :: flat v) := by rw [L_B, hfl, ← List.drop_drop, List.drop_left]; rfl
      have hv := val_l2 (s := B (flat (a :: v))) (by rw [hsz]; omega) (rdL p).length (by omega) _ [] (p.length + 1) hdr (by omega) (by simp)
      have hq3 : rgL q = true := by
        have : rgL a = true := hra
        unfold rgL at this ⊢
        rw [hq, List.all_append, List.all_cons] at this
        simp only [Bool.and_eq_true] at this
        exact this.2.2
      have hfi : (q ++ (13 :: 10 :: flat v)).filter kpC = q ++ v.flatten := by
        rw [List.filter_append, kp_all hq3]
        congr 1
        exact kp_flat v (fun b hb => hr b (List.mem_cons_of_mem _ hb))
      rw [hfi, List.nil_append, L_B] at hv
      have htk : (flat (a :: v)).take (rdL p).length = rdL p := by rw [hfl, List.take_append_of_le_length hrl, rd_take]
      rw [htk] at hv
      have hne : a.dropWhile col ≠ [] := fun e => by
        have := dropW_nil.1 e
        rw [List.all_eq_true.2 this] at h; cases h
      have e1 : (fdV (a :: v)).1 = rdL p := by
        show rdL ((a :: v).flatten.takeWhile col) = _
        rw [List.flatten_cons, tw_some col a _ h, hp]
      have e2 : (fdV (a :: v)).2.1 = trimL (q ++ v.flatten) := by
        show trimL ((a :: v).flatten.dropWhile col).tail = _
        rw [List.flatten_cons, dropW_app _ _ h]
        cases hd : a.dropWhile col with
        | nil => exact absurd hd hne
        | cons x y => rw [hd] at hq2; rw [← hq2]; rfl
      have e3 : (fdV (a :: v)).2.2 = flat (a :: v) := rfl
      rw [e1, e2, e3]
      exact hv
/-! ### A message -/
theorem tw_sub {p q : List UInt8 → Bool} (h : ∀ x, p x = true → q x = true) : ∀ t : List (List UInt8), (t.takeWhile q).takeWhile p = t.takeWhile p ∧ (t.takeWhile q).dropWhile p = (t.dropWhile p).takeWhile q ∧ (t.dropWhile p).dropWhile q = t.dropWhile q
  | [] => ⟨rfl, rfl, rfl⟩
  | x :: t => by
    have ih := tw_sub h t
    by_cases hp : p x = true
    · have hq := h x hp
      simp only [List.takeWhile_cons, List.dropWhile_cons, hp, hq, if_true]
      exact ⟨by rw [ih.1], ih.2.1, ih.2.2⟩
    · have hp' : p x = false := by simpa using hp
      by_cases hq : q x = true
      · simp [List.takeWhile_cons, List.dropWhile_cons, hp', hq]
      · simp [List.takeWhile_cons, List.dropWhile_cons, hp', hq]
theorem wh_no (x : List UInt8) (h : whL x = true) : noE x = true := by
  cases x with
  | nil => cases h
  | cons c t => rfl
theorem msL_nil : msL [] = some ([], [], true) := by unfold msL; rw [show ([] : List (List UInt8)).takeWhile noE = [] from rfl, fsS]; rfl
theorem msL_end (t : List (List UInt8)) : msL ([] :: t) = some ([], flat t, false) := by
  unfold msL
  have h1 : (([] : List UInt8) :: t).takeWhile noE = [] := by rw [List.takeWhile_cons, if_neg (by simp [noE])]
  have h2 : (([] : List UInt8) :: t).dropWhile noE = [] :: t := by rw [List.dropWhile_cons, if_neg (by simp [noE])]
  rw [h1, h2, fsS]; rfl
theorem msL_cons {a : List UInt8} (ha : a ≠ []) (t : List (List UInt8)) : msL (a :: t) = if fdB (a :: t.takeWhile whL) then (msL (t.dropWhile whL)).map (fun m => (fdV (a :: t.takeWhile whL) :: m.1, m.2.1, m.2.2)) else none := by
  have hn : noE a = true := by cases a with
    | nil => exact absurd rfl ha
    | cons c t => rfl
  obtain ⟨s1, s2, s3⟩ := tw_sub wh_no t
  unfold msL
  rw [List.takeWhile_cons, if_pos hn, List.dropWhile_cons, if_pos hn, fsS_cons, s1, s2, s3]
  cases fdB (a :: t.takeWhile whL) with
  | false => rfl
  | true =>
    simp only [if_true]
    cases fsS ((t.dropWhile whL).takeWhile noE) with
    | none => rfl
    | some fs => cases t.dropWhile noE <;> rfl
def mkR (f : Fld) : S60 := ⟨B f.1, B f.2.1, B f.2.2⟩
def resA (acc : List S60) : Option (List Fld × List UInt8 × Bool) → List S60 × ByteArray × Bool × Int
  | some m => (acc ++ m.1.map mkR, B m.2.1, m.2.2, 0)
  | none => ([], ⟨#[]⟩, false, 5)
abbrev RS := List S60 × ByteArray × Bool × Int
/-- What is done where the field's last line has been found. -/
def stopR (k : Nat) (s : ByteArray) (acc : List S60) (m : Nat) (raw : ByteArray) : Option RS :=
  (postriderref07_field.f k raw).bind fun bt190 => (if bt190.2.2.2 = true then (if acc.length < 2932031007402 then (postriderref07_Parse.l1 k s (m : Int) (acc ++ [(⟨bt190.1, bt190.2.1, bt190.2.2.1⟩ : S60)]) ⟨#[]⟩ true) else (none)) else (some (([] : List (S60)), (⟨#[]⟩ : ByteArray), false, 5)))
theorem ref_l2 {s : ByteArray} (hs : s.size ≤ 40000) {acc : List S60} {R : RS} {a : List UInt8} {n : Nat} : ∀ (u v : List (List UInt8)), (L s).drop n = flat (a :: (v ++ u)) → n ≤ s.size → (∀ x ∈ u, rgL x = true) →
    Ev (fun k => stopR k s acc (n + (flat (a :: (v ++ u.takeWhile whL))).length) (B (flat (a :: (v ++ u.takeWhile whL))))) R →
    Ev (fun k => postriderref07_Parse.l2 k s (n : Int) ((n + (flat (a :: v)).length : Nat) : Int) acc ⟨#[]⟩ true) R := by
  have hl := L_len s
  have hstop : ∀ (u v : List (List UInt8)), (L s).drop n = flat (a :: (v ++ u)) → n ≤ s.size → n + (flat (a :: v)).length ≤ s.size ∧ s.extract n (n + (flat (a :: v)).length) = B (flat (a :: v)) ∧ (L s).drop (n + (flat (a :: v)).length) = flat u := by
    intro u v hd hn
    have e : flat (a :: (v ++ u)) = flat (a :: v) ++ flat u := by rw [← flat_app]; rfl
    rw [e] at hd
    have hz := drop_size hd hn
    rw [List.length_append] at hz
    refine ⟨by omega, ?_, by rw [← List.drop_drop, hd, List.drop_left]⟩
    rw [ext_B, hd, show n + (flat (a :: v)).length - n = (flat (a :: v)).length by omega, List.take_left]
  intro u
  induction u with
  | nil =>
    intro v hd hn hr hR
    obtain ⟨h1, h2, h3⟩ := hstop [] v hd hn
    have h4 := drop_end h3
    rw [List.takeWhile_nil, List.append_nil] at hR
    refine Ev.eq (fun k => ?_) hR
    simp only [postriderref07_Parse.l2]
    rw [if_neg (by omega), if_pos (by omega), if_pos (by omega), if_pos (by omega), Int.toNat_natCast, Int.toNat_natCast, h2]
    rfl
  | cons b u ih =>
    intro v hd hn hr hR
    obtain ⟨h1, h2, h3⟩ := hstop (b :: u) v hd hn
    have hrb := hr b (by simp)
    rw [flat_cons b u] at h3
    obtain ⟨c, l', hcl⟩ : ∃ c l', b ++ (13 :: 10 :: flat u) = c :: l' := by cases b <;> exact ⟨_, _, rfl⟩
    rw [hcl] at h3
    have hlt := drop_lt h3
    have hb := bt_of h3
    have hwc : blC c = whL b := by
      cases b with
      | nil => injection hcl with e _; rw [← e]; rfl
      | cons d b' => injection hcl with e _; rw [← e]; rfl
    rw [List.takeWhile_cons] at hR
    by_cases hw : whL b = true
    · rw [if_pos hw] at hR
      rw [← hcl] at h3
      have hh := line_hit (s := s) (by omega) b (flat u) _ h3 hrb
      have hz := drop_size h3 h1
      simp only [List.length_append, List.length_cons] at hz
      have e1 : (flat (a :: (v ++ [b]))).length = (flat (a :: v)).length + b.length + 2 := by
        rw [show a :: (v ++ [b]) = (a :: v) ++ [b] from rfl, flat_app, List.length_append]; simp [flat]; omega
      have ih2 := ih (v ++ [b]) (by rw [hd]; simp) hn (fun x hx => hr x (List.mem_cons_of_mem _ hx)) (by
        rw [show v ++ [b] ++ u.takeWhile whL = v ++ b :: u.takeWhile whL by simp]; exact hR)
      rw [e1] at ih2
      have ew : wrap64 (((n + (flat (a :: v)).length + b.length : Nat) : Int) + 2) = ((n + ((flat (a :: v)).length + b.length + 2) : Nat) : Int) := by rw [wk (by omega) (by omega)]; omega
      refine Ev.eq (f := fun k => (postriderref07_line.f k s ((n + (flat (a :: v)).length : Nat) : Int)).bind fun t189 => (postriderref07_Parse.l2 k s (n : Int) (wrap64 (t189 + 2)) acc ⟨#[]⟩ true)) (fun k => ?_) (Ev.bind2 hh (by rw [ew]; exact ih2))
      simp only [postriderref07_Parse.l2]
      rw [if_pos (by omega), if_pos (by omega), hb, ref_white_f, Option.bind_some, hwc, if_pos hw]
    · rw [if_neg hw, List.append_nil] at hR
      refine Ev.eq (fun k => ?_) hR
      simp only [postriderref07_Parse.l2]
      rw [if_pos (by omega), if_pos (by omega), hb, ref_white_f, Option.bind_some, hwc, if_neg hw, if_pos (by omega), if_pos (by omega), if_pos (by omega), Int.toNat_natCast, Int.toNat_natCast, h2]
      rfl
theorem ref_l1 {s : ByteArray} (hs : s.size ≤ 40000) : ∀ (N : Nat) (ls : List (List UInt8)) (acc : List S60) (n : Nat), ls.length ≤ N → (L s).drop n = flat ls → n ≤ s.size → (∀ x ∈ ls, rgL x = true) → acc.length + ls.length < 1000000 →
    Ev (fun k => postriderref07_Parse.l1 k s (n : Int) acc ⟨#[]⟩ true) (resA acc (msL ls)) := by
  have hl := L_len s
  intro N
  induction N with
  | zero =>
    intro ls acc n h hd hn hr hacc
    obtain rfl : ls = [] := List.eq_nil_of_length_eq_zero (by omega)
    have := drop_end hd
    rw [msL_nil]
    refine Ev.eq (f := fun _ => some _) (fun k => ?_) (Ev.pure _)
    simp only [postriderref07_Parse.l1]
    rw [if_neg (by omega)]
    simp [resA]; rfl
  | succ N ih =>
    intro ls acc n h hd hn hr hacc
    cases ls with
    | nil =>
      have := drop_end hd
      rw [msL_nil]
      refine Ev.eq (f := fun _ => some _) (fun k => ?_) (Ev.pure _)
      simp only [postriderref07_Parse.l1]
      rw [if_neg (by omega)]
      simp [resA]; rfl
    | cons a t =>
      have hra := hr a (by simp)
      have hfc := flat_cons a t
      rw [hfc] at hd
      have hz := drop_size hd hn
      simp only [List.length_append, List.length_cons] at hz
      have hh := line_hit (s := s) (by omega) a (flat t) n hd hra
      simp only [List.length_cons] at h hacc
      have ew : ∀ m : Nat, m ≤ 40000 → wrap64 ((m : Int) + 2) = ((m + 2 : Nat) : Int) := fun m hm => by rw [wk (by omega) (by omega)]; omega
      by_cases ha : a = []
      · subst ha
        rw [msL_end]
        have hdd : (L s).drop (n + 2) = flat t := by rw [← List.drop_drop, hd]; rfl
        simp only [List.length_nil, Nat.add_zero] at hh
        refine Ev.eq (f := fun k => (postriderref07_line.f k s (n : Int)).bind fun t187 => (if t187 = (n : Int) then (if 0 ≤ (wrap64 ((n : Int) + 2)) then (if (wrap64 ((n : Int) + 2)) ≤ (s.size : Int) then (some (acc, s.extract ((wrap64 ((n : Int) + 2)) : Int).toNat s.size, false, 0)) else (none)) else (none)) else (postriderref07_Parse.l2 k s (n : Int) (wrap64 (t187 + 2)) acc ⟨#[]⟩ true))) (fun k => ?_) (Ev.bind2 hh ?_)
        · simp only [postriderref07_Parse.l1]
          rw [if_pos (by omega)]
        · have h0 : (0 : Int) ≤ ((n + 2 : Nat) : Int) := by omega
          have h1 : ((n + 2 : Nat) : Int) ≤ (s.size : Int) := by simp at hz; omega
          have hx : s.extract (n + 2) s.size = B (flat t) := L_inj (by rw [L_ext_end, hdd, L_B])
          rw [ew n (by omega)]
          simp only [if_true, if_pos h0, if_pos h1, Int.toNat_natCast, hx]
          simp only [resA, List.map_nil, List.append_nil]
          exact Ev.pure _
      · have hal : 0 < a.length := List.length_pos_iff.2 ha
        rw [msL_cons ha]
        have htd : t.takeWhile whL ++ t.dropWhile whL = t := List.takeWhile_append_dropWhile
        have hlen : (t.takeWhile whL).length + (t.dropWhile whL).length = t.length := by rw [← List.length_append, htd]
        have hrt : ∀ x ∈ t, rgL x = true := fun x hx => hr x (List.mem_cons_of_mem _ hx)
        have hsplit : flat (a :: t) = flat (a :: t.takeWhile whL) ++ flat (t.dropWhile whL) := by
          rw [← flat_app, List.cons_append, htd]
        have hd2 : (L s).drop n = flat (a :: ([] ++ t)) := by rw [hd, ← hfc]; rfl
        have hd3 : (L s).drop (n + (flat (a :: t.takeWhile whL)).length) = flat (t.dropWhile whL) := by
          rw [← List.drop_drop, hd, ← hfc, hsplit, List.drop_left]
        have hfl := congrArg List.length hsplit
        rw [hfc] at hfl
        simp only [List.length_append, List.length_cons] at hfl
        have hmem : ∀ x ∈ a :: t.takeWhile whL, rgL x = true := fun x hx => by
          rcases List.mem_cons.1 hx with rfl | hx
          · exact hra
          · exact hrt x (List.takeWhile_subset whL hx)
        have hst : Ev (fun k => stopR k s acc (n + (flat (a :: ([] ++ t.takeWhile whL))).length) (B (flat (a :: ([] ++ t.takeWhile whL))))) (resA acc (if fdB (a :: t.takeWhile whL) then (msL (t.dropWhile whL)).map (fun m => (fdV (a :: t.takeWhile whL) :: m.1, m.2.1, m.2.2)) else none)) := by
          rw [List.nil_append]
          unfold stopR
          refine Ev.bind2 (ref_field_f hmem (by omega)) ?_
          cases hb : fdB (a :: t.takeWhile whL) with
          | false => simp only [Bool.false_eq_true, if_false]; exact Ev.pure _
          | true =>
            have hlt : acc.length < 2932031007402 := by omega
            simp only [if_true, if_pos hlt]
            have := ih (t.dropWhile whL) (acc ++ [mkR (fdV (a :: t.takeWhile whL))]) _ (by omega) hd3 (by omega) (fun x hx => hrt x ((List.dropWhile_suffix whL).subset hx)) (by simp; omega)
            have er : resA (acc ++ [mkR (fdV (a :: t.takeWhile whL))]) (msL (t.dropWhile whL)) = resA acc ((msL (t.dropWhile whL)).map (fun m => (fdV (a :: t.takeWhile whL) :: m.1, m.2.1, m.2.2))) := by
              cases msL (t.dropWhile whL) with
              | none => rfl
              | some m => simp [resA]
            rw [← er]
            exact this
        have h2 := ref_l2 hs (acc := acc) (a := a) (n := n) t [] hd2 hn hrt hst
        have ef : (flat [a]).length = a.length + 2 := by simp [flat]
        rw [ef] at h2
        refine Ev.eq (f := fun k => (postriderref07_line.f k s (n : Int)).bind fun t187 => (if t187 = (n : Int) then (if 0 ≤ (wrap64 ((n : Int) + 2)) then (if (wrap64 ((n : Int) + 2)) ≤ (s.size : Int) then (some (acc, s.extract ((wrap64 ((n : Int) + 2)) : Int).toNat s.size, false, 0)) else (none)) else (none)) else (postriderref07_Parse.l2 k s (n : Int) (wrap64 (t187 + 2)) acc ⟨#[]⟩ true))) (fun k => ?_) (Ev.bind2 hh ?_)
        · simp only [postriderref07_Parse.l1]
          rw [if_pos (by omega)]
        · have hne : ¬ (((n + a.length : Nat) : Int) = (n : Int)) := by omega
          simp only [if_neg hne]
          rw [ew (n + a.length) (by omega)]
          exact h2
theorem ref_l0 {s : ByteArray} (hs : s.size ≤ 40000) {R : RS} : ∀ (N : Nat) (l : List UInt8) (n : Nat), l.length ≤ N → (L s).drop n = l → n ≤ s.size →
    (∀ ls, lnG l [] = some ls → Ev (fun k => postriderref07_Parse.l1 k s 0 ([] : List S60) ⟨#[]⟩ true) R → Ev (fun k => postriderref07_Parse.l0 k s (n : Int)) R) ∧
    (lnG l [] = none → Ev (fun k => postriderref07_Parse.l0 k s (n : Int)) (([] : List S60), (⟨#[]⟩ : ByteArray), false, 5)) := by
  intro N
  induction N with
  | zero =>
    intro l n h hd hn
    obtain rfl : l = [] := List.eq_nil_of_length_eq_zero (by omega)
    have := drop_end hd
    refine ⟨fun ls _ hR => Ev.eq (fun k => ?_) hR, fun h => by cases h⟩
    simp only [postriderref07_Parse.l0]
    rw [if_neg (by omega)]
  | succ N ih =>
    intro l n h hd hn
    rcases lnG_stop l [] with ⟨a, t, rfl, ha⟩ | ⟨rfl, _, _⟩ | ⟨hnone, hne, hno⟩
    · have hz := drop_size hd hn
      simp only [List.length_append, List.length_cons] at hz h
      have hh := line_hit (s := s) (by omega) a t n hd ha
      have hdd : (L s).drop (n + a.length + 2) = t := by rw [show n + a.length + 2 = (n + a.length) + 2 from rfl, ← List.drop_drop, ← List.drop_drop, hd, List.drop_left]; rfl
      obtain ⟨i1, i2⟩ := ih t (n + a.length + 2) (by omega) hdd (by omega)
      have ew : wrap64 (((n + a.length : Nat) : Int) + 2) = ((n + a.length + 2 : Nat) : Int) := by rw [wk (by omega) (by omega)]; omega
      have step : ∀ Q : RS, Ev (fun k => postriderref07_Parse.l0 k s ((n + a.length + 2 : Nat) : Int)) Q → Ev (fun k => postriderref07_Parse.l0 k s (n : Int)) Q := by
        intro Q hQ
        refine Ev.eq (f := fun k => (postriderref07_line.f k s (n : Int)).bind fun t185 => (if t185 < 0 then (some (([] : List (S60)), (⟨#[]⟩ : ByteArray), false, 5)) else (postriderref07_Parse.l0 k s (wrap64 (t185 + 2))))) (fun k => ?_) (Ev.bind2 hh ?_)
        · simp only [postriderref07_Parse.l0]
          rw [if_pos (by omega)]
        · have hge : ¬ (((n + a.length : Nat) : Int) < 0) := by omega
          simp only [if_neg hge, ew]
          exact hQ
      rw [lnG_line a t [] ha]
      refine ⟨fun ls he hR => ?_, fun he => ?_⟩
      · obtain ⟨ls', he', _⟩ := Option.map_eq_some_iff.1 he
        exact step R (i1 ls' he' hR)
      · exact step _ (i2 (by cases hx : lnG t [] with
          | none => rfl
          | some z => rw [hx] at he; cases he))
    · have := drop_end hd
      refine ⟨fun ls _ hR => Ev.eq (fun k => ?_) hR, fun h => by cases h⟩
      simp only [postriderref07_Parse.l0]
      rw [if_neg (by omega)]
    · refine ⟨fun ls he _ => (by rw [hnone] at he; cases he), fun _ => ?_⟩
      have hl : l ≠ [] := by rcases hne with h | h
                             · exact h
                             · exact absurd rfl h
      have hlt : n < s.size := by
        cases l with
        | nil => exact absurd rfl hl
        | cons c l' => exact drop_lt hd
      refine Ev.eq (f := fun k => (postriderref07_line.f k s (n : Int)).bind fun t185 => (if t185 < 0 then (some (([] : List (S60)), (⟨#[]⟩ : ByteArray), false, 5)) else (postriderref07_Parse.l0 k s (wrap64 (t185 + 2))))) (fun k => ?_) (Ev.bind2 (line_miss (by omega) l n hd hn hno) ?_)
      · simp only [postriderref07_Parse.l0]
        rw [if_pos (by omega)]
      · have : (-1 : Int) < 0 := by omega
        simp only [if_pos this]
        exact Ev.pure _
theorem resA_nil (x : Option (List Fld × List UInt8 × Bool)) : resA [] x = resM mkR x := by cases x <;> simp [resA, resM]
/-- The document's message of a text. -/
theorem ref_parse_f {s : ByteArray} : Ev (fun k => postriderref07_Parse.f k s) (if s.size > 8192 then ([], ⟨#[]⟩, false, 3) else resM mkR (msS (L s))) := by
  unfold postriderref07_Parse.f
  by_cases hs : s.size > 8192
  · rw [if_pos hs]
    have : (s.size : Int) > 8192 := by omega
    simp only [if_pos this]
    exact Ev.pure _
  · rw [if_neg hs]
    have : ¬ (s.size : Int) > 8192 := by omega
    simp only [if_neg this]
    have hl := L_len s
    unfold msS
    cases he : lnG (L s) [] with
    | none => exact (ref_l0 (R := ([], ⟨#[]⟩, false, 5)) (by omega) (L s).length (L s) 0 (Nat.le_refl _) rfl (by omega)).2 he
    | some ls =>
      obtain ⟨h1, h2⟩ := lnG_some _ (L s) ls (Nat.le_refl _) he
      have hc := flat_count ls
      rw [← h1] at hc
      have := ref_l1 (s := s) (by omega) ls.length ls [] 0 (Nat.le_refl _) h1 (by omega) h2 (by simp; omega)
      rw [resA_nil] at this
      exact (ref_l0 (by omega) (L s).length (L s) 0 (Nat.le_refl _) rfl (by omega)).1 ls he this
end Go.Proofs.YtdciiahlakgikaaDoor.S
