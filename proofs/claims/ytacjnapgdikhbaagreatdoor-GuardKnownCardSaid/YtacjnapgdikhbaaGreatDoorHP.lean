/- The program's look at a message's text: what its functions come to. -/
import Derived.Test.YtacjnapgdikhbaaGreatDoorHD
import Derived.Test.YtacjnapgdikhbaaGreatDoorTB
import Derived.Test.YtacjnapgdikhbaaGreatDoorH
import Derived.Lib.SlicesS
import Derived.Test.YtacjnapgdikhbaaGreatDoorQx10
import Derived.Test.YtacjnapgdikhbaaGreatDoorQx0
import Derived.Test.YtacjnapgdikhbaaGreatDoorQx7
namespace Go.Proofs.YtacjnapgdikhbaaGreatDoor.S
open Go.RowKit Go.Proofs.YtacjnapgdikhbaaGreatDoor.Q Go.Proofs.YtacjnapgdikhbaaGreatDoorW.PrintWords Go.Proofs.YtacjnapgdikhbaaGreatDoorW.PrintLast Go.Proofs.YtacjnapgdikhbaaGreatDoorW.PrintMore
set_option linter.unusedVariables false
set_option linter.unusedSimpArgs false
theorem ev_anyF {α : Type} {p : Nat → α → Option Bool} {f : α → Bool} : ∀ l : List α, (∀ x ∈ l, Ev (fun k => p k x) (f x)) → Ev (fun k => anyF (p k) l) (l.any f)
  | [], _ => Ev.pure _
  | x :: t, h => by
    refine Ev.cong (f := fun k => (p k x).bind fun b => if b = true then some true else anyF (p k) t) (fun k => rfl) ?_
    refine Ev.bind2 (h x (by simp)) ?_
    rw [List.any_cons]
    cases f x with
    | true => exact Ev.pure _
    | false => exact ev_anyF t (fun y hy => h y (List.mem_cons_of_mem _ hy))
theorem rg_num (c : UInt8) : rgC c = true ↔ (c.toNat = 9 ∨ (32 ≤ c.toNat ∧ c.toNat ≠ 127)) :=
  byte_all (p := fun c => rgC c = true ↔ (c.toNat = 9 ∨ (32 ≤ c.toNat ∧ c.toNat ≠ 127))) (by decide +kernel) c
theorem fn_num (c : UInt8) : fnC c = true ↔ (33 ≤ c.toNat ∧ c.toNat ≤ 126 ∧ c.toNat ≠ 58) := by
  unfold fnC; simp [and_assoc]
theorem byteful_l0 {s : ByteArray} (hs : s.size ≤ 70368744177) : ∀ (l : List UInt8) (n : Nat), (L s).drop n = l → n ≤ s.size → Ev (fun k => head_byteful.l0 k s (s.size : Int) (n : Int)) (rgL l) := by
  intro l
  induction l with
  | nil =>
    intro n hd hn
    have := drop_end hd
    exact Ev.eq (f := fun _ => some _) (fun k => by simp only [head_byteful.l0]; rw [if_neg (by omega)]; rfl) (Ev.pure _)
  | cons c l ih =>
    intro n hd hn
    have hlt := drop_lt hd
    have hb := bt_of hd
    have ew := w1 hlt (by omega)
    have hc := rg_num c
    by_cases c1 : rgC c = true
    · refine Ev.eq (f := fun k => head_byteful.l0 k s (s.size : Int) ((n + 1 : Nat) : Int)) (fun k => ?_) ?_
      · simp only [head_byteful.l0]
        rw [if_pos (by omega), if_pos (by omega), if_pos (by omega), hb, ew]
        rcases hc.1 c1 with h | h
        · rw [if_pos (by omega)]
        · by_cases h9 : c.toNat = 9
          · omega
          · rw [if_neg (by omega), if_neg (by omega), if_neg (by omega)]
      · have := ih (n + 1) (drop_next hd) (by omega)
        simpa [rgL, c1] using this
    · refine Ev.eq (f := fun _ => some _) (fun k => ?_) (Ev.pure _)
      have h2 : ¬ (c.toNat = 9 ∨ (32 ≤ c.toNat ∧ c.toNat ≠ 127)) := fun h => c1 (hc.2 h)
      have hr : rgL (c :: l) = false := by simp [rgL, c1]
      simp only [head_byteful.l0]
      rw [if_pos (by omega), if_pos (by omega), if_pos (by omega), hb, if_neg (by omega), hr]
      by_cases h3 : c.toNat < 32
      · rw [if_pos (by omega)]
      · rw [if_neg (by omega), if_pos (by omega)]
theorem byteful_f {s : ByteArray} (hs : s.size ≤ 70368744177) : Ev (fun k => head_byteful.f k s) (rgL (L s)) := byteful_l0 hs (L s) 0 rfl (by omega)
theorem named_l0 {s : ByteArray} (hs : s.size ≤ 70368744177) : ∀ (l : List UInt8) (n : Nat), (L s).drop n = l → n ≤ s.size → Ev (fun k => head_named.l0 k s (s.size : Int) (n : Int)) (l.all fnC && !(L s).isEmpty) := by
  intro l
  induction l with
  | nil =>
    intro n hd hn
    have := drop_end hd
    exact Ev.eq (f := fun _ => some _) (fun k => by simp only [head_named.l0]; rw [if_neg (by omega), toL, bneNil]; rfl) (Ev.pure _)
  | cons c l ih =>
    intro n hd hn
    have hlt := drop_lt hd
    have hb := bt_of hd
    have ew := w1 hlt (by omega)
    have hc := fn_num c
    by_cases c1 : fnC c = true
    · refine Ev.eq (f := fun k => head_named.l0 k s (s.size : Int) ((n + 1 : Nat) : Int)) (fun k => ?_) ?_
      · have h := hc.1 c1
        simp only [head_named.l0]
        rw [if_pos (by omega), if_pos (by omega), if_pos (by omega), hb, ew, if_neg (by omega), if_neg (by omega), if_neg (by omega)]
      · have := ih (n + 1) (drop_next hd) (by omega)
        simpa [c1] using this
    · refine Ev.eq (f := fun _ => some _) (fun k => ?_) (Ev.pure _)
      have h2 : ¬ (33 ≤ c.toNat ∧ c.toNat ≤ 126 ∧ c.toNat ≠ 58) := fun h => c1 (hc.2 h)
      have hr : ((c :: l).all fnC && !(L s).isEmpty) = false := by simp [c1]
      simp only [head_named.l0]
      rw [if_pos (by omega), if_pos (by omega), if_pos (by omega), hb, hr]
      by_cases h3 : c.toNat ≤ 32
      · rw [if_pos (by omega)]
      · by_cases h4 : c.toNat > 126
        · rw [if_neg (by omega), if_pos (by omega)]
        · rw [if_neg (by omega), if_neg (by omega), if_pos (by omega)]
theorem named_f {s : ByteArray} (hs : s.size ≤ 70368744177) : Ev (fun k => head_named.f k s) (fnL (L s)) := by
  have := named_l0 hs (L s) 0 rfl (by omega)
  rw [Bool.and_comm] at this
  exact this
theorem white_f (x : List UInt8) : head_white.f (B x) = some (whL x) := by
  unfold head_white.f
  rw [toL, L_B]
  cases x with
  | nil => rfl
  | cons c t =>
    have hb : bt (B (c :: t)) 0 = (c.toNat : Int) := bt_of (n := 0) (l := t) (by rw [L_B]; rfl)
    have hsz : (B (c :: t)).size = t.length + 1 := by rw [B_size]; rfl
    rw [if_neg (by simp), if_pos (by omega), hb]
    show _ = some (blC c)
    have h1 := bl_num c
    by_cases h : (c.toNat : Int) = 32
    · rw [if_pos h, h1.2 (.inl h)]
    · rw [if_neg h]
      by_cases h9 : (c.toNat : Int) = 9
      · rw [h1.2 (.inr h9), beq_iff_eq.2 h9]
      · have : blC c = false := by rw [Bool.eq_false_iff]; intro hh; rcases h1.1 hh with e | e <;> contradiction
        rw [this, beq_eq_false_iff_ne.2 h9]
theorem join_len : ∀ (ls : List (List UInt8)) (sep : List UInt8), ∀ a ∈ ls, a.length ≤ (Lib.join ls sep).length
  | [x], sep, a, h => by rw [Lib.join_one]; simp at h; rw [h]; exact Nat.le_refl _
  | x :: y :: r, sep, a, h => by
    rw [join_cons2]
    rcases List.mem_cons.1 h with rfl | h
    · simp
    · have := join_len (y :: r) sep a h
      simp only [List.length_append]; omega
theorem split_len {s sep : List UInt8} (hs : sep ≠ []) : ∀ a ∈ Lib.split s sep, a.length ≤ s.length := fun a h => by
  have := join_len _ sep a h
  rwa [split_join hs _ s (Nat.le_refl _)] at this
theorem hasS_drop (l p : List UInt8) : Lib.hasSuffix l p = (decide (p.length ≤ l.length) && (l.drop (l.length - p.length) == p)) := by
  unfold Lib.hasSuffix
  rw [Bool.eq_iff_iff, List.isSuffixOf_iff_suffix, List.suffix_iff_eq_drop, Bool.and_eq_true, decide_eq_true_eq, beq_iff_eq]
  constructor
  · intro h
    refine ⟨?_, h.symm⟩
    have := congrArg List.length h
    rw [List.length_drop] at this
    omega
  · rintro ⟨_, h⟩; exact h.symm
theorem cutS_f {s : ByteArray} (hs : s.size ≤ 70368744177) : strings_CutSuffix.f s (⟨#[13, 10]⟩ : ByteArray) = some (B (Lib.trimSuffix (L s) [13, 10]), Lib.hasSuffix (L s) [13, 10]) := by
  have hp : (⟨#[13, 10]⟩ : ByteArray).size = 2 := rfl
  have hl := L_len s
  unfold strings_CutSuffix.f stringslite_CutSuffix.f stringslite_HasSuffix.f Lib.trimSuffix
  rw [hp]
  have hd := hasS_drop (L s) [13, 10]
  by_cases h2 : 2 ≤ s.size
  · rw [if_pos (by omega), wk (by omega) (by omega), if_pos (by omega), if_pos (by omega), Option.bind_some, show ((s.size : Int) - ((2 : Nat) : Int)).toNat = s.size - 2 by omega, toL, toL, L_ext_end]
    have e : ((L s).drop (s.size - 2) == L (⟨#[13, 10]⟩ : ByteArray)) = Lib.hasSuffix (L s) [13, 10] := by
      rw [hd, hl, show decide (([13, 10] : List UInt8).length ≤ s.size) = true from decide_eq_true h2]
      rfl
    rw [e]
    cases hb : Lib.hasSuffix (L s) [13, 10] with
    | true =>
      rw [if_pos rfl, if_pos rfl, if_pos (by omega), if_pos (by omega), Option.bind_some, ext_B]
      simp only [Nat.sub_zero, List.drop_zero, hl]
      rfl
    | false => simp only [Bool.false_eq_true, if_false, Option.bind_some, B_L]
  · have hf : Lib.hasSuffix (L s) [13, 10] = false := by
      rw [hd, hl, show decide (([13, 10] : List UInt8).length ≤ s.size) = false from decide_eq_false h2]; rfl
    rw [if_neg (by omega), hf]
    simp only [Bool.false_eq_true, if_false, Option.bind_some, B_L]
theorem split_crlf {s : ByteArray} (hs : s.size < 4294967281) : strings_Split.f s (⟨#[13, 10]⟩ : ByteArray) = some ((Lib.split (L s) [13, 10]).map B) := by
  unfold strings_Split.f
  rw [if_pos ⟨hs, by decide⟩]
  congr 1
  have h := Lib.splitB_data (⟨#[13, 10]⟩ : ByteArray) 0 (Lib.countB s ⟨#[13, 10]⟩) s
  have h2 : (Lib.splitB (⟨#[13, 10]⟩ : ByteArray) 0 (Lib.countB s ⟨#[13, 10]⟩) s).map L = Lib.split (L s) [13, 10] := h
  rw [← h2, List.map_map]
  conv => lhs; rw [← List.map_id (Lib.splitB _ _ _ _)]
  exact List.map_congr_left (fun x _ => (B_L x).symm)
def lnP (l : List UInt8) : List (List UInt8) × Bool := if l = [] then ([], true) else (Lib.split (Lib.trimSuffix l [13, 10]) [13, 10], Lib.hasSuffix l [13, 10] && (Lib.split (Lib.trimSuffix l [13, 10]) [13, 10]).all rgL)
theorem lines_f {s : ByteArray} (hs : s.size ≤ 1000000) : Ev (fun k => head_lines.f k s) ((lnP (L s)).1.map B, (lnP (L s)).2) := by
  unfold head_lines.f lnP
  rw [toL]
  by_cases he : L s = []
  · rw [if_pos he]; simp only [if_pos he]; exact Ev.pure _
  · rw [if_neg he]; simp only [if_neg he]
    refine Ev.bindc (cutS_f (by omega)) ?_
    have hl := L_len s
    have ht : (Lib.trimSuffix (L s) [13, 10]).length ≤ s.size := by
      unfold Lib.trimSuffix; split
      · rw [List.length_take]; omega
      · omega
    refine Ev.bindc (split_crlf (by rw [B_size]; omega)) ?_
    rw [L_B]
    cases hb : Lib.hasSuffix (L s) [13, 10] with
    | false => simp only [Bool.false_eq_true, if_false, Bool.false_and]; exact Ev.pure _
    | true =>
      simp only [if_true, Bool.true_and]
      have ha : Ev (fun k => slices_ContainsFunc_string_string__head_lines_1.f k ((Lib.split (Lib.trimSuffix (L s) [13, 10]) [13, 10]).map B)) (((Lib.split (Lib.trimSuffix (L s) [13, 10]) [13, 10]).map B).any fun x => !rgL (L x)) := by
        refine ev_anyF (p := fun k x => head_lines_1.f k x) _ (fun x hx => ?_)
        obtain ⟨a, ha, rfl⟩ := List.mem_map.1 hx
        have := split_len (sep := [13, 10]) (by simp) a ha
        unfold head_lines_1.f
        exact Ev.bind2 (byteful_f (by rw [B_size]; omega)) (Ev.pure _)
      refine Ev.bind2 ha ?_
      have e : (!((Lib.split (Lib.trimSuffix (L s) [13, 10]) [13, 10]).map B).any fun x => !rgL (L x)) = (Lib.split (Lib.trimSuffix (L s) [13, 10]) [13, 10]).all rgL := by
        rw [List.any_map, List.not_any_eq_all_not]
        congr 1
        funext x
        simp [L_B]
      rw [e]
      exact Ev.pure _
theorem lnP_ln (l : List UInt8) : lnG l [] = if (lnP l).2 = true then some (lnP l).1 else none := by
  unfold lnP
  by_cases he : l = []
  · subst he; rfl
  · rw [if_neg he, ln_prog he]
theorem join_flat : ∀ ls : List (List UInt8), Lib.join ls [] = ls.flatten
  | [] => rfl
  | [x] => by rw [Lib.join_one]; simp
  | x :: y :: r => by rw [join_cons2, join_flat (y :: r)]; simp
theorem flat_len (ls : List (List UInt8)) : ls.flatten.length ≤ (flat ls).length := by
  induction ls with
  | nil => simp [flat]
  | cons a t ih => rw [flat_cons, List.flatten_cons, List.length_append, List.length_append, List.length_cons, List.length_cons]; omega
theorem join_f {a : List UInt8} {t : List (List UInt8)} {sep : ByteArray} (h1 : (a :: t).length ≤ 1000000) (h2 : (Lib.join (a :: t) (L sep)).length ≤ 1000000) : strings_Join.f ((a :: t).map B) sep = some (B (Lib.join (a :: t) (L sep))) := by
  unfold strings_Join.f
  have e : ((B a :: t.map B).map (·.data.toList)) = a :: t := by
    rw [List.map_cons, List.map_map]
    have h2 : t.map ((fun x : ByteArray => x.data.toList) ∘ B) = t := by
      conv => rhs; rw [← List.map_id t]
      exact List.map_congr_left (fun x _ => L_B x)
    rw [h2, show (B a).data.toList = a from L_B a]
  show (if _ then _ else _) = _
  rw [e]
  have hl : (B a :: t.map B).length = (a :: t).length := by simp
  rw [hl, if_pos ⟨by omega, by show (Lib.join (a :: t) (L sep)).length ≤ _; omega⟩]
  rfl
theorem flat_count (ls : List (List UInt8)) : 2 * ls.length ≤ (flat ls).length := by
  induction ls with
  | nil => simp [flat]
  | cons a t ih => rw [flat_cons, List.length_append, List.length_cons, List.length_cons, List.length_cons]; omega
theorem hasP_f {s p : ByteArray} (hs : s.size ≤ 70368744177) : strings_HasPrefix.f s p = some ((L p).isPrefixOf (L s)) := by
  have hl := L_len s
  have hq := L_len p
  unfold strings_HasPrefix.f stringslite_HasPrefix.f
  have hh := Lib.hasPrefix_of_take (L s) (L p)
  by_cases h : p.size ≤ s.size
  · rw [if_pos (by omega), if_pos (by omega), if_pos (by omega), Option.bind_some, toL, toL, L_ext, Int.toNat_natCast, Nat.sub_zero, List.drop_zero]
    congr 1
    unfold Lib.hasPrefix at hh
    rw [← hh, hl, hq, decide_eq_true h, Bool.true_and]
  · rw [if_neg (by omega), Option.bind_some]
    congr 1
    symm
    rw [Bool.eq_false_iff]
    intro hp
    have := (List.isPrefixOf_iff_prefix.1 hp).length_le
    omega
def fdP (a : List UInt8) (t : List (List UInt8)) : ByteArray × ByteArray × ByteArray × Bool :=
  (B (trimL (Lib.cut (a :: t).flatten [58]).1), B (trimL (Lib.cut (a :: t).flatten [58]).2.1), B (flat (a :: t)), fdB (a :: t))
theorem trim_len (l : List UInt8) : (trimL l).length ≤ l.length := by
  unfold trimL
  rw [List.length_reverse]
  have h1 := (List.dropWhile_suffix (l := (l.dropWhile blC).reverse) blC).length_le
  have h2 := (List.dropWhile_suffix (l := l) blC).length_le
  rw [List.length_reverse] at h1
  omega
theorem cut_len (l : List UInt8) : (Lib.cut l [58]).1.length ≤ l.length ∧ (Lib.cut l [58]).2.1.length ≤ l.length := by
  unfold Lib.cut
  split
  · exact ⟨by rw [List.length_take]; omega, by rw [List.length_drop]; omega⟩
  · exact ⟨Nat.le_refl _, by simp⟩
theorem field_f {a : List UInt8} {t : List (List UInt8)} (h : (flat (a :: t)).length ≤ 100000) : Ev (fun k => head_field.f k ((a :: t).map B)) (fdP a t) := by
  have hc := flat_count (a :: t)
  have hf := flat_len (a :: t)
  have hj := flat_join (a :: t) (by simp)
  have hjl := congrArg List.length hj
  simp only [List.length_append, List.length_cons, List.length_nil] at hjl
  obtain ⟨hc1, hc2⟩ := cut_len (a :: t).flatten
  obtain ⟨p1, p2⟩ := fd_prog a t
  unfold head_field.f
  refine Ev.bindc (join_f (sep := ⟨#[]⟩) (by omega) (by show (Lib.join (a :: t) []).length ≤ _; rw [join_flat]; omega)) ?_
  have e0 : Lib.join (a :: t) (L (⟨#[]⟩ : ByteArray)) = (a :: t).flatten := join_flat _
  rw [e0]
  refine Ev.bindc (a := (B (Lib.cut (a :: t).flatten [58]).1, B (Lib.cut (a :: t).flatten [58]).2.1, (Lib.cut (a :: t).flatten [58]).2.2)) ?_ ?_
  · unfold strings_Cut.f
    rw [if_pos (by rw [B_size]; omega)]
    have : (B (a :: t).flatten).data.toList = (a :: t).flatten := L_B _
    rw [this]; rfl
  refine Ev.bindc (trim_f (by dsimp only; rw [B_size]; omega)) ?_
  dsimp only
  rw [L_B]
  have e3 : (0 : Int) < (((a :: t).map B).length : Int) := by rw [List.length_map, List.length_cons]; omega
  simp only [if_pos e3]
  have er : rdOf ByteArray.empty ((a :: t).map B) 0 = B a := rfl
  rw [er]
  have ha : a.length ≤ 100000 := by have : a.length ≤ (flat (a :: t)).length := by rw [flat_cons, List.length_append]; omega
                                    omega
  refine Ev.bindc (a := Lib.contains a [58]) ?_ ?_
  · unfold strings_Contains.f
    rw [if_pos (by rw [B_size]; omega)]
    have : (B a).data.toList = a := L_B _
    rw [this]
  refine Ev.bindc (trim_f (by rw [B_size]; omega)) ?_
  rw [L_B]
  refine Ev.bindc (join_f (sep := ⟨#[13, 10]⟩) (by omega) (by show (Lib.join (a :: t) [13, 10]).length ≤ _; omega)) ?_
  have e1 : B (Lib.join (a :: t) (L (⟨#[13, 10]⟩ : ByteArray))) ++ (⟨#[13, 10]⟩ : ByteArray) = B (flat (a :: t)) := by
    rw [show (⟨#[13, 10]⟩ : ByteArray) = B [13, 10] from rfl, B_app, hj]; rfl
  have e2 : (B (Lib.join (a :: t) (L (⟨#[13, 10]⟩ : ByteArray)))).size + 2 ≤ 9223372036854775807 := by
    rw [B_size]; show (Lib.join (a :: t) [13, 10]).length + 2 ≤ _; omega
  simp only [if_pos e2, e1]
  unfold fdP
  rcases hx : Lib.cut (a :: t).flatten [58] with ⟨x, y, b⟩
  rw [hx] at p1 hc1
  dsimp only at p1 hc1 ⊢
  have htl := trim_len x
  rw [← p1]
  cases b with
  | false => simp only [Bool.false_eq_true, if_false, Bool.false_and]; exact Ev.pure _
  | true =>
    cases hcl : Lib.contains a [58] with
    | false => simp only [Bool.false_eq_true, if_false, if_true, Bool.false_and, Bool.and_false]; exact Ev.pure _
    | true =>
      simp only [if_true, Bool.true_and]
      refine Ev.bind2 (named_f (by rw [B_size]; omega)) ?_
      rw [L_B]
      cases hn : fnL (trimL x) with
      | false => simp only [Bool.false_eq_true, if_false, Bool.false_and]; exact Ev.pure _
      | true =>
        simp only [if_true, Bool.true_and]
        refine Ev.bindc (hasP_f (by rw [B_size]; omega)) ?_
        rw [L_B, L_B]
        exact Ev.pure _
def mkS (f : Fld) : S72 := ⟨B f.1, B f.2.1, B f.2.2⟩
theorem fdP_eq {a : List UInt8} {t : List (List UInt8)} (h : fdB (a :: t) = true) : (⟨(fdP a t).1, (fdP a t).2.1, (fdP a t).2.2.1⟩ : S72) = mkS (fdV (a :: t)) := by
  have := (fd_prog a t).2 h
  unfold mkS fdP
  rw [← this, ← flat_join (a :: t) (by simp)]
def resP (acc : List S72) (body : ByteArray) (early : Bool) : Option (List Fld) → List S72 × ByteArray × Bool × Int
  | some fs => (acc ++ fs.map mkS, body, early, 0)
  | none => ([], ⟨#[]⟩, false, 5)
theorem parse_no (k : Nat) (x : List ByteArray) (acc : List S72) (body : ByteArray) (early : Bool) : head_Parse.l1 (k + 2) x false acc body early = some (([] : List S72), (⟨#[]⟩ : ByteArray), false, 5) := by
  simp only [head_Parse.l1, head_Parse.j3, Bool.false_eq_true, if_false]
theorem rd_map (ls : List (List UInt8)) (j : Nat) (h : j < ls.length) : rdOf ByteArray.empty (ls.map B) (j : Int) = B (ls[j]'h) := by
  unfold rdOf
  rw [Int.toNat_natCast, List.getD_eq_getElem?_getD, List.getElem?_map, List.getElem?_eq_getElem h]; rfl
theorem parse_stop {a : List UInt8} {v u : List (List UInt8)} {acc : List S72} {body : ByteArray} {early : Bool} (hf : (flat (a :: v)).length ≤ 100000) (hacc : acc.length < 1000000)
    (hyes : fdB (a :: v) = true → Ev (fun k => head_Parse.l1 k (u.map B) true (acc ++ [mkS (fdV (a :: v))]) body early) (resP (acc ++ [mkS (fdV (a :: v))]) body early (fsS u))) :
    Ev (fun k => (head_field.f k (((a :: (v ++ u)).map B).take (v.length + 1))).bind fun bt148 => (if bt148.2.2.2 = true then (if acc.length < 2932031007402 then (head_Parse.l1 k (((a :: (v ++ u)).map B).drop (v.length + 1)) bt148.2.2.2 (acc ++ [(⟨bt148.1, bt148.2.1, bt148.2.2.1⟩ : S72)]) body early) else (none)) else (head_Parse.l1 k (((a :: (v ++ u)).map B).drop (v.length + 1)) bt148.2.2.2 acc body early)))
      (if fdB (a :: v) then resP (acc ++ [mkS (fdV (a :: v))]) body early (fsS u) else ([], ⟨#[]⟩, false, 5)) := by
  have e1 : ((a :: (v ++ u)).map B).take (v.length + 1) = (a :: v).map B := by
    rw [← List.map_take]; simp
  have e2 : ((a :: (v ++ u)).map B).drop (v.length + 1) = u.map B := by
    rw [← List.map_drop]; simp
  rw [e1, e2]
  refine Ev.bind2 (field_f hf) ?_
  have hb : (fdP a v).2.2.2 = fdB (a :: v) := rfl
  cases h : fdB (a :: v) with
  | true =>
    rw [hb, h]
    have hlt : acc.length < 2932031007402 := by omega
    simp only [if_true, if_pos hlt]
    rw [fdP_eq h]
    exact hyes h
  | false =>
    rw [hb, h]
    simp only [Bool.false_eq_true, if_false]
    exact ⟨2, fun k hk => by obtain ⟨k, rfl⟩ : ∃ q, k = q + 2 := ⟨k - 2, by omega⟩; exact parse_no k _ _ _ _⟩
theorem parse_l2 {a : List UInt8} {acc : List S72} {body : ByteArray} {early : Bool} {R : List S72 × ByteArray × Bool × Int} : ∀ (u v : List (List UInt8)), (flat (a :: (v ++ u))).length ≤ 100000 →
    Ev (fun k => (head_field.f k (((a :: (v ++ u)).map B).take (v.length + (u.takeWhile whL).length + 1))).bind fun bt148 => (if bt148.2.2.2 = true then (if acc.length < 2932031007402 then (head_Parse.l1 k (((a :: (v ++ u)).map B).drop (v.length + (u.takeWhile whL).length + 1)) bt148.2.2.2 (acc ++ [(⟨bt148.1, bt148.2.1, bt148.2.2.1⟩ : S72)]) body early) else (none)) else (head_Parse.l1 k (((a :: (v ++ u)).map B).drop (v.length + (u.takeWhile whL).length + 1)) bt148.2.2.2 acc body early))) R →
    Ev (fun k => head_Parse.l2 k ((a :: (v ++ u)).map B) ((v.length + 1 : Nat) : Int) acc body early) R := by
  intro u
  induction u with
  | nil =>
    intro v hf hR
    have hc := flat_count (a :: (v ++ []))
    refine Ev.eq (fun k => ?_) hR
    simp only [head_Parse.l2]
    have hl : ((a :: (v ++ [])).map B).length = v.length + 1 := by simp
    rw [hl, if_neg (by omega), if_pos (by omega), if_pos (by omega), Int.toNat_natCast]
    rfl
  | cons b u ih =>
    intro v hf hR
    have hc := flat_count (a :: (v ++ b :: u))
    have hl : ((a :: (v ++ b :: u)).map B).length = v.length + u.length + 2 := by simp; omega
    have hlc : (a :: (v ++ b :: u)).length = v.length + u.length + 2 := by simp; omega
    have hg : (a :: (v ++ b :: u))[v.length + 1]'(by rw [hlc]; omega) = b := by simp
    have hrd := rd_map (a :: (v ++ b :: u)) (v.length + 1) (by rw [hlc]; omega)
    rw [hg] at hrd
    rw [hlc] at hc
    have ew : wrap64 (((v.length + 1 : Nat) : Int) + 1) = ((v.length + 1 + 1 : Nat) : Int) := w1 (m := v.length + 2) (by omega) (by omega)
    by_cases hw : whL b = true
    · rw [List.takeWhile_cons, if_pos hw, List.length_cons] at hR
      have e : a :: (v ++ b :: u) = a :: ((v ++ [b]) ++ u) := by simp
      have ih2 := ih (v ++ [b]) (by rw [← e]; exact hf)
      rw [← e] at ih2
      have el : (v ++ [b]).length = v.length + 1 := by simp
      rw [el] at ih2
      refine Ev.eq (f := fun k => head_Parse.l2 k ((a :: (v ++ b :: u)).map B) ((v.length + 1 + 1 : Nat) : Int) acc body early) (fun k => ?_) (ih2 (by
        have e5 : v.length + 1 + (u.takeWhile whL).length + 1 = v.length + ((u.takeWhile whL).length + 1) + 1 := by omega
        rw [e5]; exact hR))
      simp only [head_Parse.l2]
      rw [hl, if_pos (by omega), if_pos (by omega), hrd, white_f, Option.bind_some, if_pos hw, ew]
    · rw [List.takeWhile_cons, if_neg hw, List.length_nil, Nat.add_zero] at hR
      refine Ev.eq (fun k => ?_) hR
      simp only [head_Parse.l2]
      rw [hl, if_pos (by omega), if_pos (by omega), hrd, white_f, Option.bind_some, if_neg hw, if_pos (by omega), Int.toNat_natCast]
theorem flat_sub {a b : List (List UInt8)} : (flat a).length ≤ (flat (a ++ b)).length ∧ (flat b).length ≤ (flat (a ++ b)).length := by
  rw [flat_app, List.length_append]; omega
theorem parse_l1 {body : ByteArray} {early : Bool} : ∀ (N : Nat) (ls : List (List UInt8)) (acc : List S72), ls.length ≤ N → (flat ls).length ≤ 100000 → acc.length + ls.length < 1000000 →
    Ev (fun k => head_Parse.l1 k (ls.map B) true acc body early) (resP acc body early (fsS ls)) := by
  intro N
  induction N with
  | zero =>
    intro ls acc h hf hacc
    obtain rfl : ls = [] := List.eq_nil_of_length_eq_zero (by omega)
    refine ⟨2, fun k hk => ?_⟩
    obtain ⟨k, rfl⟩ : ∃ q, k = q + 2 := ⟨k - 2, by omega⟩
    simp only [head_Parse.l1, head_Parse.j3, if_true]
    rw [if_neg (by simp), fsS]
    simp [resP]
  | succ N ih =>
    intro ls acc h hf hacc
    cases ls with
    | nil =>
      refine ⟨2, fun k hk => ?_⟩
      obtain ⟨k, rfl⟩ : ∃ q, k = q + 2 := ⟨k - 2, by omega⟩
      simp only [head_Parse.l1, head_Parse.j3, if_true]
      rw [if_neg (by simp), fsS]
      simp [resP]
    | cons a t =>
      have htd : t.takeWhile whL ++ t.dropWhile whL = t := List.takeWhile_append_dropWhile
      have hlen : (t.takeWhile whL).length + (t.dropWhile whL).length = t.length := by rw [← List.length_append, htd]
      simp only [List.length_cons] at h hacc
      have hsub := flat_sub (a := a :: t.takeWhile whL) (b := t.dropWhile whL)
      rw [List.cons_append, htd] at hsub
      have hst := parse_stop (a := a) (v := t.takeWhile whL) (u := t.dropWhile whL) (acc := acc) (body := body) (early := early) (by omega) (by omega)
        (fun hb => ih (t.dropWhile whL) _ (by omega) (by omega) (by simp; omega))
      rw [htd] at hst
      have e0 : ([] : List (List UInt8)).length + (t.takeWhile whL).length + 1 = (t.takeWhile whL).length + 1 := by simp
      have h2 := parse_l2 (a := a) (acc := acc) (body := body) (early := early) (R := (if fdB (a :: t.takeWhile whL) then resP (acc ++ [mkS (fdV (a :: t.takeWhile whL))]) body early (fsS (t.dropWhile whL)) else ([], ⟨#[]⟩, false, 5))) t [] (by simpa using hf) (by rw [e0]; exact hst)
      have er : resP acc body early (fsS (a :: t)) = (if fdB (a :: t.takeWhile whL) then resP (acc ++ [mkS (fdV (a :: t.takeWhile whL))]) body early (fsS (t.dropWhile whL)) else ([], ⟨#[]⟩, false, 5)) := by
        rw [fsS_cons]
        cases fdB (a :: t.takeWhile whL) with
        | false => rfl
        | true =>
          simp only [if_true]
          cases fsS (t.dropWhile whL) with
          | none => rfl
          | some fs => simp [resP]
      rw [er]
      refine Ev.eq (f := fun k => head_Parse.j3 k ((a :: t).map B) true true acc body early) (fun k => ?_) (Ev.eq (f := fun k => head_Parse.l2 k ((a :: t).map B) 1 acc body early) (fun k => ?_) h2)
      · simp only [head_Parse.l1, if_true]
        congr 1
        simp
      · simp only [head_Parse.j3, if_true]
theorem parse_l0 {x4 : List ByteArray} {b : Bool} {x6 : Int} {early : Bool} {u : List (List UInt8)} (hf : (flat u).length ≤ 100000) {R : List S72 × ByteArray × Bool × Int} (h0 : 0 ≤ x6) (h1 : x6 ≤ (x4.length : Int))
    (hR : Ev (fun k => head_Parse.j1 k (x4.take (x6 : Int).toNat) b (B (flat u)) early) R) : ∀ (q p : List (List UInt8)), p ++ q = u →
    Ev (fun k => head_Parse.l0 k x4 b x6 (u.map B) ((u.map B).length : Int) (p.length : Int) (B (flat p)) early) R := by
  intro q
  induction q with
  | nil =>
    intro p he
    rw [List.append_nil] at he
    subst he
    refine Ev.eq (fun k => ?_) hR
    simp only [head_Parse.l0]
    rw [if_neg (by simp), if_pos h0, if_pos h1]
  | cons c q ih =>
    intro p he
    have hl : (u.map B).length = p.length + q.length + 1 := by rw [List.length_map, ← he]; simp; omega
    have hul : u.length = p.length + q.length + 1 := by rw [← he]; simp; omega
    have hc := flat_count u
    have hg : u[p.length]'(by omega) = c := by simp [← he]
    have hrd := rd_map u p.length (by omega)
    rw [hg] at hrd
    have ew : wrap64 ((p.length : Int) + 1) = ((p.length + 1 : Nat) : Int) := w1 (m := p.length + 1) (by omega) (by omega)
    have hs1 := flat_sub (a := p ++ [c]) (b := q)
    rw [List.append_assoc, List.singleton_append, he] at hs1
    have hfl : flat (p ++ [c]) = flat p ++ (c ++ [13, 10]) := by rw [flat_app]; simp [flat]
    have hfll := congrArg List.length hfl
    simp only [List.length_append, List.length_cons, List.length_nil] at hfll
    have := ih (p ++ [c]) (by rw [← he]; simp)
    rw [show (p ++ [c]).length = p.length + 1 by simp] at this
    refine Ev.eq (f := fun k => head_Parse.l0 k x4 b x6 (u.map B) ((u.map B).length : Int) ((p.length + 1 : Nat) : Int) (B (flat (p ++ [c]))) early) (fun k => ?_) this
    simp only [head_Parse.l0]
    rw [hrd, show (⟨#[13, 10]⟩ : ByteArray) = B [13, 10] from rfl, B_app, B_app, B_size, B_size, B_size, ew]
    rw [if_pos (by omega), if_pos (by omega), if_pos (by omega), if_pos (by omega), if_pos (by rw [List.length_append, List.length_cons, List.length_cons, List.length_nil]; omega), hfl]
theorem idx_noE : ∀ ls : List (List UInt8), Lib.idxOfS (ls.map B) (⟨#[]⟩ : ByteArray) = if ls.all noE = true then -1 else ((ls.takeWhile noE).length : Int) := by
  intro ls
  have hgen : ∀ (ls : List (List UInt8)) (i : Nat), Lib.idxFromS (ls.map B) (⟨#[]⟩ : ByteArray) i = if ls.all noE = true then -1 else ((i + (ls.takeWhile noE).length : Nat) : Int) := by
    intro ls
    induction ls with
    | nil => intro i; rfl
    | cons a t ih =>
      intro i
      rw [List.map_cons, Lib.idxFromS]
      have he : B a = (⟨#[]⟩ : ByteArray) ↔ a = [] := by
        constructor
        · intro h; have := congrArg L h; rwa [L_B] at this
        · rintro rfl; rfl
      by_cases hh : a = []
      · have hn : noE a = false := by rw [hh]; rfl
        rw [if_pos (he.2 hh), List.all_cons, hn, List.takeWhile_cons, hn]
        simp
      · have hn : noE a = true := by unfold noE; cases a with
          | nil => exact absurd rfl hh
          | cons x y => rfl
        rw [if_neg (fun h => hh (he.1 h)), List.all_cons, hn, List.takeWhile_cons, hn, ih]
        simp only [Bool.true_and, if_true, List.length_cons]
        split
        · rfl
        · congr 1; omega
  unfold Lib.idxOfS
  rw [hgen]
  split
  · rfl
  · congr 1; omega
def resM {α : Type} (mk : Fld → α) : Option (List Fld × List UInt8 × Bool) → List α × ByteArray × Bool × Int
  | some m => (m.1.map mk, B m.2.1, m.2.2, 0)
  | none => ([], ⟨#[]⟩, false, 5)
theorem tw_len_all (p : List UInt8 → Bool) (ls : List (List UInt8)) (h : ls.all p = true) : ls.takeWhile p = ls ∧ ls.dropWhile p = [] := by
  induction ls with
  | nil => exact ⟨rfl, rfl⟩
  | cons a t ih =>
    simp only [List.all_cons, Bool.and_eq_true] at h
    have := ih h.2
    rw [List.takeWhile_cons, if_pos h.1, List.dropWhile_cons, if_pos h.1, this.1]
    exact ⟨rfl, this.2⟩
theorem tw_len_some (p : List UInt8 → Bool) (ls : List (List UInt8)) (h : ls.all p = false) : ∃ x t, ls.dropWhile p = x :: t ∧ p x = false := by
  induction ls with
  | nil => simp at h
  | cons a t ih =>
    rw [List.dropWhile_cons]
    by_cases hp : p a = true
    · rw [if_pos hp]; exact ih (by simpa [hp] using h)
    · rw [if_neg hp]; exact ⟨a, t, rfl, by simpa using hp⟩
theorem parse_f {s : ByteArray} : Ev (fun k => head_Parse.f k s) (if s.size > 8192 then ([], ⟨#[]⟩, false, 3) else resM mkS (msS (L s))) := by
  unfold head_Parse.f
  by_cases hs : s.size > 8192
  · rw [if_pos hs]
    have : (s.size : Int) > 8192 := by omega
    simp only [if_pos this]
    exact Ev.pure _
  · rw [if_neg hs]
    have : ¬ (s.size : Int) > 8192 := by omega
    simp only [if_neg this]
    have hl := L_len s
    refine Ev.bind2 (lines_f (by omega)) ?_
    have hln := lnP_ln (L s)
    rcases hpp : lnP (L s) with ⟨ls, is⟩
    rw [hpp] at hln
    dsimp only at hln ⊢
    refine Ev.bindc (a := Lib.idxOfS (ls.map B) ⟨#[]⟩) rfl ?_
    rw [idx_noE]
    have hll : ls.length ≤ 8193 ∧ (flat ls).length ≤ 40000 := by
      have h1 : ls = (lnP (L s)).1 := by rw [hpp]
      unfold lnP at h1
      by_cases he : L s = []
      · rw [if_pos he] at h1; rw [h1]; exact ⟨by simp, by simp [flat]⟩
      · rw [if_neg he] at h1
        have hj := split_join (sep := [13, 10]) (by simp) _ (Lib.trimSuffix (L s) [13, 10]) (Nat.le_refl _)
        have hfj := flat_join (Lib.split (Lib.trimSuffix (L s) [13, 10]) [13, 10]) (split_ne _ _)
        have ht : (Lib.trimSuffix (L s) [13, 10]).length ≤ (L s).length := by
          unfold Lib.trimSuffix; split
          · rw [List.length_take]; omega
          · exact Nat.le_refl _
        dsimp only at h1
        rw [← h1] at hj hfj
        rw [hj] at hfj
        have hfl := congrArg List.length hfj
        have hfc := flat_count ls
        simp only [List.length_append, List.length_cons, List.length_nil] at hfl
        omega
    have main : ∀ (h : List (List UInt8)) (body : ByteArray) (early : Bool), (flat h).length ≤ 100000 → h.length ≤ 10000 →
        Ev (fun k => head_Parse.j1 k (h.map B) is body early) (if is = true then resP [] body early (fsS h) else ([], ⟨#[]⟩, false, 5)) := by
      intro h body early hf hh
      refine Ev.eq (f := fun k => head_Parse.l1 k (h.map B) is [] body early) (fun k => by simp only [head_Parse.j1]) ?_
      cases is with
      | true => exact parse_l1 h.length h [] (Nat.le_refl _) hf (by simp; omega)
      | false => exact ⟨2, fun k hk => by obtain ⟨k, rfl⟩ : ∃ q, k = q + 2 := ⟨k - 2, by omega⟩; exact parse_no k _ _ _ _⟩
    have hms : resM mkS (msS (L s)) = if is = true then resM mkS (msL ls) else ([], ⟨#[]⟩, false, 5) := by
      unfold msS
      rw [hln]
      cases is <;> rfl
    rw [hms]
    have htw : ls.takeWhile noE ++ ls.dropWhile noE = ls := List.takeWhile_append_dropWhile
    have hsub := flat_sub (a := ls.takeWhile noE) (b := ls.dropWhile noE)
    rw [htw] at hsub
    have hlen : (ls.takeWhile noE).length + (ls.dropWhile noE).length = ls.length := by rw [← List.length_append, htw]
    cases ha : ls.all noE with
    | true =>
      obtain ⟨t1, t2⟩ := tw_len_all noE ls ha
      have e1 : ((-1 : Int) < 0) := by omega
      simp only [if_true, if_pos e1, decide_true]
      have := main ls ⟨#[]⟩ true (by omega) (by omega)
      have e : (if is = true then resP [] ⟨#[]⟩ true (fsS ls) else ([], ⟨#[]⟩, false, 5)) = if is = true then resM mkS (msL ls) else ([], ⟨#[]⟩, false, 5) := by
        unfold msL
        rw [t1, t2]
        cases is with
        | false => rfl
        | true => cases fsS ls with
          | none => rfl
          | some fs => simp [resP, resM]; rfl
      rw [← e]; exact this
    | false =>
      obtain ⟨x, t, t1, t2⟩ := tw_len_some noE ls ha
      rw [t1] at hsub hlen htw
      simp only [List.length_cons] at hlen
      have hft : (flat t).length ≤ (flat (x :: t)).length := by rw [flat_cons, List.length_append, List.length_cons, List.length_cons]; omega
      have ew : wrap64 (((ls.takeWhile noE).length : Int) + 1) = (((ls.takeWhile noE).length + 1 : Nat) : Int) := w1 (m := (ls.takeWhile noE).length + 1) (by omega) (by omega)
      have e1 : ¬ (((ls.takeWhile noE).length : Int) < 0) := by omega
      have e2 : (0 : Int) ≤ (((ls.takeWhile noE).length + 1 : Nat) : Int) := by omega
      have e3 : (((ls.takeWhile noE).length + 1 : Nat) : Int) ≤ ((ls.map B).length : Int) := by rw [List.length_map]; omega
      have ed : decide (((ls.takeWhile noE).length : Int) < 0) = false := decide_eq_false e1
      simp only [Bool.false_eq_true, if_false, if_neg e1, ew, if_pos e2, if_pos e3, Option.bind_some, Int.toNat_natCast, ed]
      have hk : ∀ (p q : List (List UInt8)), p ++ x :: t = q → q.drop (p.length + 1) = t ∧ q.take p.length = p := by
        rintro p q rfl
        exact ⟨by rw [← List.drop_drop, List.drop_left]; rfl, List.take_left⟩
      have hdr : (ls.map B).drop ((ls.takeWhile noE).length + 1) = t.map B := by
        rw [← List.map_drop, (hk _ _ htw).1]
      rw [hdr]
      have htk : (ls.map B).take (((ls.takeWhile noE).length : Int)).toNat = (ls.takeWhile noE).map B := by
        rw [Int.toNat_natCast, ← List.map_take, (hk _ _ htw).2]
      have hm := main (ls.takeWhile noE) (B (flat t)) false (by omega) (by omega)
      rw [← htk] at hm
      have h0 := parse_l0 (x4 := ls.map B) (b := is) (x6 := ((ls.takeWhile noE).length : Int)) (early := false) (u := t) (by omega) (by omega) (by rw [List.length_map]; omega) hm t [] rfl
      have e : (if is = true then resP [] (B (flat t)) false (fsS (ls.takeWhile noE)) else ([], ⟨#[]⟩, false, 5)) = if is = true then resM mkS (msL ls) else ([], ⟨#[]⟩, false, 5) := by
        unfold msL
        rw [t1]
        cases is with
        | false => rfl
        | true => cases fsS (ls.takeWhile noE) with
          | none => rfl
          | some fs => simp [resP, resM]
      rw [← e]
      exact h0
end Go.Proofs.YtacjnapgdikhbaaGreatDoor.S

