/- The document's look at a message's text: what its functions come to. -/
import Derived.Test.YtdciiahlakgikaaDoorHP
import Derived.Test.YtdciiahlakgikaaDoorQx7
namespace Go.Proofs.YtdciiahlakgikaaDoor.S
open Go.RowKit Go.Proofs.YtdciiahlakgikaaDoor.Q Go.Proofs.YtdciiahlakgikaaDoorW.PrintWords Go.Proofs.YtdciiahlakgikaaDoorW.PrintLast Go.Proofs.YtdciiahlakgikaaDoorW.PrintMore
set_option linter.unusedVariables false
set_option linter.unusedSimpArgs false
theorem ref_right_f (c : UInt8) : postriderref07_right.f (c.toNat : Int) = some (rgC c) := by
  unfold postriderref07_right.f
  have h := rg_num c
  by_cases h9 : c.toNat = 9
  · rw [if_pos (by omega), h.2 (.inl h9)]
  · rw [if_neg (by omega)]
    by_cases h32 : 32 ≤ c.toNat
    · rw [if_pos (by omega)]
      by_cases h127 : c.toNat = 127
      · have : rgC c = false := by rw [Bool.eq_false_iff]; intro hh; have := h.1 hh; omega
        rw [this, bne_eq_false_iff_eq.2 (show (c.toNat : Int) = 127 by omega)]
      · rw [h.2 (.inr ⟨h32, h127⟩), bne_iff_ne.2 (show (c.toNat : Int) ≠ 127 by omega)]
    · have : rgC c = false := by rw [Bool.eq_false_iff]; intro hh; have := h.1 hh; omega
      rw [if_neg (by omega), this]
theorem ref_white_f (c : UInt8) : postriderref07_white.f (c.toNat : Int) = some (blC c) := by
  unfold postriderref07_white.f
  have h := bl_num c
  by_cases h9 : (c.toNat : Int) = 9
  · rw [if_pos h9, h.2 (.inr h9)]
  · rw [if_neg h9]
    by_cases h32 : (c.toNat : Int) = 32
    · rw [h.2 (.inl h32), beq_iff_eq.2 h32]
    · have : blC c = false := by rw [Bool.eq_false_iff]; intro hh; rcases h.1 hh with e | e <;> contradiction
      rw [this, beq_eq_false_iff_ne.2 h32]
theorem ref_named_l0 {s : ByteArray} (hs : s.size ≤ 70368744177) : ∀ (l : List UInt8) (n : Nat), (L s).drop n = l → n ≤ s.size → Ev (fun k => postriderref07_Named.l0 k s (n : Int)) (l.all fnC && !(L s).isEmpty) := by
  intro l
  induction l with
  | nil =>
    intro n hd hn
    have := drop_end hd
    refine Ev.eq (f := fun _ => some _) (fun k => ?_) (Ev.pure _)
    simp only [postriderref07_Named.l0]
    rw [if_neg (by omega)]
    have hl := L_len s
    cases hL : L s with
    | nil => rw [hL] at hl; simp at hl; rw [decide_eq_false (by omega)]; rfl
    | cons x y => rw [hL] at hl; simp at hl; rw [decide_eq_true (by omega)]; rfl
  | cons c l ih =>
    intro n hd hn
    have hlt := drop_lt hd
    have hb := bt_of hd
    have ew := w1 hlt (by omega)
    have hc := fn_num c
    by_cases c1 : fnC c = true
    · refine Ev.eq (f := fun k => postriderref07_Named.l0 k s ((n + 1 : Nat) : Int)) (fun k => ?_) ?_
      · have h := hc.1 c1
        simp only [postriderref07_Named.l0]
        rw [if_pos (by omega), if_pos (by omega), hb, ew, if_neg (by omega), if_neg (by omega), if_neg (by omega)]
      · have := ih (n + 1) (drop_next hd) (by omega)
        simpa [c1] using this
    · refine Ev.eq (f := fun _ => some _) (fun k => ?_) (Ev.pure _)
      have h2 : ¬ (33 ≤ c.toNat ∧ c.toNat ≤ 126 ∧ c.toNat ≠ 58) := fun h => c1 (hc.2 h)
      have hr : ((c :: l).all fnC && !(L s).isEmpty) = false := by simp [c1]
      simp only [postriderref07_Named.l0]
      rw [if_pos (by omega), if_pos (by omega), hb, hr]
      by_cases h3 : c.toNat < 33
      · rw [if_pos (by omega)]
      · by_cases h4 : c.toNat > 126
        · rw [if_neg (by omega), if_pos (by omega)]
        · rw [if_neg (by omega), if_neg (by omega), if_pos (by omega)]
theorem ref_named_f {s : ByteArray} (hs : s.size ≤ 70368744177) : Ev (fun k => postriderref07_Named.f k s) (fnL (L s)) := by
  have := ref_named_l0 hs (L s) 0 rfl (by omega)
  rw [Bool.and_comm] at this
  exact this
/-! ### A field -/
def kpC (c : UInt8) : Bool := c != 13 && c != 10
theorem kp_rg {c : UInt8} (h : rgC c = true) : kpC c = true := by
  unfold kpC
  have h1 : c ≠ 13 := fun e => by rw [e, rg13] at h; cases h
  have h2 : c ≠ 10 := fun e => by rw [e, rg10] at h; cases h
  simp [h1, h2]
theorem kp_all {a : List UInt8} (h : rgL a = true) : a.filter kpC = a := List.filter_eq_self.2 (fun c hc => kp_rg (List.all_eq_true.1 h c hc))
theorem kp_flat : ∀ ls : List (List UInt8), (∀ a ∈ ls, rgL a = true) → (flat ls).filter kpC = ls.flatten
  | [], _ => rfl
  | a :: t, h => by
    rw [flat_cons, List.filter_append, kp_all (h a (by simp)), List.flatten_cons]
    congr 1
    exact kp_flat t (fun b hb => h b (List.mem_cons_of_mem _ hb))
theorem val_l2 {s : ByteArray} (hs : s.size ≤ 1000000) (e : Nat) (he : e ≤ s.size) : ∀ (l out : List UInt8) (n : Nat), (L s).drop n = l → n ≤ s.size → out.length ≤ n →
    Ev (fun k => postriderref07_field.l2 k s (e : Int) (B out) (n : Int)) (B ((L s).take e), B (trimL (out ++ l.filter kpC)), s, true) := by
  intro l
  induction l with
  | nil =>
    intro out n hd hn ho
    have := drop_end hd
    refine Ev.eq (f := fun k => (postriderref04_Trim.f k (B out)).bind fun t183 => (some (s.extract 0 (e : Int).toNat, t183, s, true))) (fun k => ?_) ?_
    · simp only [postriderref07_field.l2]
      rw [if_neg (by omega), if_pos (by omega), if_pos (by omega)]
    · refine Ev.bind2 (ref_trim_f (by rw [B_size]; omega)) ?_
      rw [L_B, Int.toNat_natCast, ext_B, Nat.sub_zero, List.drop_zero]
      simp only [List.filter_nil, List.append_nil]
      exact Ev.pure _
  | cons c l ih =>
    intro out n hd hn ho
    have hlt := drop_lt hd
    have hb := bt_of hd
    have ew := w1 hlt (by omega)
    by_cases h13 : c = 13
    · have := ih out (n + 1) (drop_next hd) (by omega) (by omega)
      refine Ev.eq (f := fun k => postriderref07_field.l2 k s (e : Int) (B out) ((n + 1 : Nat) : Int)) (fun k => ?_) (by rw [List.filter_cons, show kpC c = false by rw [h13]; rfl]; exact this)
      simp only [postriderref07_field.l2]
      rw [if_pos (by omega), if_pos (by omega), hb, h13, if_pos (by decide), ew]
    · by_cases h10 : c = 10
      · have := ih out (n + 1) (drop_next hd) (by omega) (by omega)
        refine Ev.eq (f := fun k => postriderref07_field.l2 k s (e : Int) (B out) ((n + 1 : Nat) : Int)) (fun k => ?_) (by rw [List.filter_cons, show kpC c = false by rw [h10]; rfl]; exact this)
        simp only [postriderref07_field.l2]
        rw [if_pos (by omega), if_pos (by omega), hb, h10, if_neg (by decide), if_pos (by decide), ew]
      · have hk : kpC c = true := by simp [kpC, h13, h10]
        have := ih (out ++ [c]) (n + 1) (drop_next hd) (by omega) (by simp; omega)
        have n13 : ¬ (c.toNat : Int) = 13 := fun h => h13 ((c_eq c 13).1 h)
        have n10 : ¬ (c.toNat : Int) = 10 := fun h => h10 ((c_eq c 10).1 h)
        have hcut : s.extract ((n : Int)).toNat (((n + 1 : Nat) : Int)).toNat = B [c] := by rw [Int.toNat_natCast, Int.toNat_natCast]; exact cut1 hd
        refine Ev.eq (f := fun k => postriderref07_field.l2 k s (e : Int) (B (out ++ [c])) ((n + 1 : Nat) : Int)) (fun k => ?_) (by rw [List.filter_cons, if_pos hk]; simpa using this)
        simp only [postriderref07_field.l2]
        rw [if_pos (by omega), if_pos (by omega), hb, if_neg n13, if_neg n10, ew, if_pos (by omega), if_pos (by omega), hcut, B_app, B_size, B_size, if_pos (by rw [List.length_cons, List.length_nil]; omega)]
/-- Back over blanks to the name's end. -/
theorem name_l1 {s : ByteArray} (hs : s.size ≤ 1000000) {at_ : Nat} (hat : at_ < s.size) {R : ByteArray × ByteArray × ByteArray × Bool} : ∀ (e : Nat), e ≤ s.size →
    Ev (fun k => postriderref07_field.j4 k s (at_ : Int) ((rdL ((L s).take e)).length : Int)) R → Ev (fun k => postriderref07_field.l1 k s (at_ : Int) (e : Int)) R := by
  intro e
  induction e with
  | zero =>
    intro _ h
    refine Ev.eq (f := fun k => postriderref07_field.j4 k s (at_ : Int) ((rdL ((L s).take 0)).length : Int)) (fun k => ?_) h
    simp only [postriderref07_field.l1]
    rw [if_neg (by omega)]; rfl
  | succ e ih =>
    intro hle h
    have hl := L_len s
    have hd := List.drop_eq_getElem_cons (l := L s) (i := e) (by omega)
    have hb := bt_of hd
    have htk : (L s).take (e + 1) = (L s).take e ++ [(L s)[e]'(by omega)] := List.take_succ_eq_append_getElem (by omega)
    rw [htk, rd_snoc] at h
    have ew : wrap64 (((e + 1 : Nat) : Int) - 1) = (e : Int) := by rw [wk (by omega) (by omega)]; omega
    by_cases hw : blC ((L s)[e]'(by omega)) = true
    · rw [if_pos hw] at h
      refine Ev.eq (f := fun k => postriderref07_field.l1 k s (at_ : Int) (e : Int)) (fun k => ?_) (ih (by omega) h)
      simp only [postriderref07_field.l1]
      rw [if_pos (by omega), ew, if_pos (by omega), if_pos (by omega), hb, ref_white_f, Option.bind_some, if_pos hw]
    · rw [if_neg hw] at h
      have hlen : ((L s).take e ++ [(L s)[e]'(by omega)]).length = e + 1 := by simp only [List.length_append, List.length_take, List.length_cons, List.length_nil]; omega
      rw [hlen] at h
      refine Ev.eq (f := fun k => postriderref07_field.j4 k s (at_ : Int) ((e + 1 : Nat) : Int)) (fun k => ?_) h
      simp only [postriderref07_field.l1]
      rw [if_pos (by omega), ew, if_pos (by omega), if_pos (by omega), hb, ref_white_f, Option.bind_some, if_neg hw]
theorem rd_len (l : List UInt8) : (rdL l).length ≤ l.length := (List.isPrefixOf_iff_prefix.1 (rd_pre l)).length_le
theorem rd_take (l : List UInt8) : l.take (rdL l).length = rdL l := by
  obtain ⟨r, hr⟩ := List.isPrefixOf_iff_prefix.1 (rd_pre l)
  conv => lhs; rw [← hr]
  rw [show (rdL (rdL l ++ r)).length = (rdL l).length by rw [hr], List.take_left]
/-- The scan to the colon, or to the first line's end. -/
theorem scan_l0 {s : ByteArray} (hs : s.size ≤ 1000000) {R : ByteArray × ByteArray × ByteArray × Bool} : ∀ (p q : List UInt8) (n : Nat), (L s).drop n = p ++ q → n ≤ s.size → (∀ c ∈ p, c ≠ 58 ∧ c ≠ 13) → (∃ c q', q = c :: q' ∧ (c = 58 ∨ c = 13)) →
    Ev (fun k => postriderref07_field.j1 k s ((n + p.length : Nat) : Int)) R → Ev (fun k => postriderref07_field.l0 k s (n : Int)) R := by
  intro p
  induction p with
  | nil =>
    intro q n hd hn _ hq h
    obtain ⟨c, q', rfl, hc⟩ := hq
    have hd' : (L s).drop n = c :: q' := hd
    have hlt := drop_lt hd'
    have hb := bt_of hd'
    refine Ev.eq (f := fun k => postriderref07_field.j1 k s (n : Int)) (fun k => ?_) h
    simp only [postriderref07_field.l0]
    rw [if_pos (by omega), if_pos (by omega), hb]
    rcases hc with rfl | rfl
    · rw [if_pos (by decide)]
    · rw [if_neg (by decide), if_pos (by decide)]
  | cons c p ih =>
    intro q n hd hn hp hq h
    have hd' : (L s).drop n = c :: (p ++ q) := hd
    have hlt := drop_lt hd'
    have hb := bt_of hd'
    have ew := w1 hlt (by omega)
    have hc := hp c (by simp)
    have n58 : ¬ (c.toNat : Int) = 58 := fun h => hc.1 ((c_eq c 58).1 h)
    have n13 : ¬ (c.toNat : Int) = 13 := fun h => hc.2 ((c_eq c 13).1 h)
    have := ih q (n + 1) (drop_next hd') (by omega) (fun x hx => hp x (List.mem_cons_of_mem _ hx)) hq (by rw [show n + 1 + p.length = n + (c :: p).length by simp; omega]; exact h)
    refine Ev.eq (f := fun k => postriderref07_field.l0 k s ((n + 1 : Nat) : Int)) (fun k => ?_) this
    simp only [postriderref07_field.l0]
    rw [if_pos (by omega), if_pos (by omega), hb, if_neg n58, if_neg n13, ew]
/-- The document's field of lines. -/
theorem ref_field_f {a : List UInt8} {v : List (List UInt8)} (hr : ∀ x ∈ a :: v, rgL x = true) (hf : (flat (a :: v)).length ≤ 100000) : Ev (fun k => postriderref07_field.f k (B (flat (a :: v)))) (if fdB (a :: v) then (B (fdV (a :: v)).1, B (fdV (a :: v)).2.1, B (fdV (a :: v)).2.2, true) else (⟨#[]⟩, ⟨#[]⟩, ⟨#[]⟩, false)) := by
  have hsz : (B (flat (a :: v))).size = (flat (a :: v)).length := B_size _
  have hfc := flat_cons a v
  have hlen := congrArg List.length hfc
  simp only [List.length_append, List.length_cons] at hlen
  have hra := hr a (by simp)
  have h13 := rg_no13 hra
  show Ev (fun k => postriderref07_field.l0 k (B (flat (a :: v))) ((0 : Nat) : Int)) _
  cases h : a.all col with
  | true =>
    have hb : fdB (a :: v) = false := by
      show (a.any (· == 58) && fnL (rdL (a.takeWhile col))) = false
      rw [col_any, h]; rfl
    rw [hb]
    refine scan_l0 (by rw [hsz]; omega) a (13 :: 10 :: flat v) 0 (by rw [L_B, List.drop_zero, hfc]) (by omega) (fun c hc => ⟨fun e => col_no h (by rw [← e]; exact hc), fun e => h13 (by rw [← e]; exact hc)⟩) ⟨13, _, rfl, .inr rfl⟩ ?_
    have hbt : bt (B (flat (a :: v))) ((0 + a.length : Nat) : Int) = 13 := bt_of (c := 13) (l := 10 :: flat v) (by rw [L_B, hfc, Nat.zero_add, List.drop_left])
    refine Ev.eq (f := fun k => postriderref07_field.j2 k (B (flat (a :: v))) ((0 + a.length : Nat) : Int) true) (fun k => ?_) (Ev.eq (f := fun _ => some _) (fun k => ?_) (Ev.pure _))
    · simp only [postriderref07_field.j1]
      rw [hbt, if_neg (by omega), if_pos (by omega), if_pos (by omega)]
      rfl
    · simp only [postriderref07_field.j2, if_true]
      rfl
  | false =>
    obtain ⟨q, hq, hq2⟩ := first_colon h
    obtain ⟨p, hp⟩ : ∃ p, a.takeWhile col = p := ⟨_, rfl⟩
    have hpc : p.all col = true := by rw [← hp]; exact take_all col a
    rw [hp] at hq
    have hfl : flat (a :: v) = p ++ (58 :: (q ++ (13 :: 10 :: flat v))) := by rw [hfc, hq]; simp
    have hpl : p.length + 1 + q.length = a.length := by rw [hq]; simp; omega
    have hpm : ∀ c ∈ p, c ∈ a := fun c hc => by rw [hq]; simp [hc]
    refine scan_l0 (by rw [hsz]; omega) p (58 :: (q ++ (13 :: 10 :: flat v))) 0 (by rw [L_B, List.drop_zero, hfl]) (by omega) (fun c hc => ⟨fun e => col_no hpc (by rw [← e]; exact hc), fun e => h13 (by rw [← e]; exact hpm c hc)⟩) ⟨58, _, rfl, .inl rfl⟩ ?_
    rw [Nat.zero_add]
    have hbt : bt (B (flat (a :: v))) (p.length : Int) = 58 := bt_of (c := 58) (l := q ++ (13 :: 10 :: flat v)) (by rw [L_B, hfl, List.drop_left])
    refine Ev.eq (f := fun k => postriderref07_field.j2 k (B (flat (a :: v))) (p.length : Int) false) (fun k => ?_) (Ev.eq (f := fun k => postriderref07_field.l1 k (B (flat (a :: v))) (p.length : Int) (p.length : Int)) (fun k => ?_) ?_)
    · simp only [postriderref07_field.j1]
      rw [hbt, if_neg (by omega), if_pos (by omega), if_pos (by omega)]
      rfl
    · simp only [postriderref07_field.j2, Bool.false_eq_true, if_false]
    have htp : (L (B (flat (a :: v)))).take p.length = p := by rw [L_B, hfl, List.take_left]
    refine name_l1 (by rw [hsz]; omega) (by omega) p.length (by omega) ?_
    rw [htp]
    have hrl := rd_len p
    have hext : (B (flat (a :: v))).extract 0 (((rdL p).length : Int)).toNat = B (rdL p) := by
      rw [Int.toNat_natCast, ext_B, Nat.sub_zero, List.drop_zero, L_B, hfl, List.take_append_of_le_length hrl, rd_take]
    have hfb : fdB (a :: v) = fnL (rdL p) := by
      show (a.any (· == 58) && fnL (rdL (a.takeWhile col))) = _
      rw [col_any, h, hp]; rfl
    rw [hfb]
    refine Ev.eq (f := fun k => (postriderref07_Named.f k (B (rdL p))).bind fun t182 => (if t182 = true then (postriderref07_field.l2 k (B (flat (a :: v))) ((rdL p).length : Int) (⟨#[]⟩ : ByteArray) ((p.length + 1 : Nat) : Int)) else (some ((⟨#[]⟩ : ByteArray), (⟨#[]⟩ : ByteArray), (⟨#[]⟩ : ByteArray), false)))) (fun k => ?_) ?_
    · simp only [postriderref07_field.j4]
      rw [if_pos (by omega), if_pos (by omega), hext, w1 (n := p.length) (m := p.length + 1) (by omega) (by omega)]
    refine Ev.bind2 (ref_named_f (by rw [B_size]; omega)) ?_
    rw [L_B]
    cases hn : fnL (rdL p) with
    | false => simp only [Bool.false_eq_true, if_false]; exact Ev.pure _
    | true =>
      simp only [if_true]
      have hdr : (L (B (flat (a :: v)))).drop (p.length + 1) = q ++ (13 :: 10 :: flat v) := by rw [L_B, hfl, ← List.drop_drop, List.drop_left]; rfl
      have hv := val_l2 (s := B (flat (a :: v))) (by rw [hsz]; omega) (rdL p).length (by omega) _ [] (p.length + 1) hdr (by omega) (by simp)
      have hq3 : rgL q = true := by
        have : rgL a = true := hra
        unfold rgL at this ⊢
        rw [hq, List.all_append, List.all_cons] at this
        simp only [Bool.and_eq_true] at this
        exact this.2.2
      have hfi : (q ++ (13 :: 10 :: flat v)).filter kpC = q ++ v.flatten := by
        rw [List.filter_append, kp_all hq3]
        congr 1
        exact kp_flat v (fun b hb => hr b (List.mem_cons_of_mem _ hb))
      rw [hfi, List.nil_append, L_B] at hv
      have htk : (flat (a :: v)).take (rdL p).length = rdL p := by rw [hfl, List.take_append_of_le_length hrl, rd_take]
      rw [htk] at hv
      have hne : a.dropWhile col ≠ [] := fun e => by
        have := dropW_nil.1 e
        rw [List.all_eq_true.2 this] at h; cases h
      have e1 : (fdV (a :: v)).1 = rdL p := by
        show rdL ((a :: v).flatten.takeWhile col) = _
        rw [List.flatten_cons, tw_some col a _ h, hp]
      have e2 : (fdV (a :: v)).2.1 = trimL (q ++ v.flatten) := by
        show trimL ((a :: v).flatten.dropWhile col).tail = _
        rw [List.flatten_cons, dropW_app _ _ h]
        cases hd : a.dropWhile col with
        | nil => exact absurd hd hne
        | cons x y => rw [hd] at hq2; rw [← hq2]; rfl
      have e3 : (fdV (a :: v)).2.2 = flat (a :: v) := rfl
      rw [e1, e2, e3]
      exact hv
def mkR (f : Fld) : S60 := ⟨B f.1, B f.2.1, B f.2.2⟩
end Go.Proofs.YtdciiahlakgikaaDoor.S
