/- The document's trimming: what it comes to. -/
import Derived.Test.YtfeihligcondgaaDoorY
namespace Go.Proofs.YtfeihligcondgaaDoor.S
open Go.RowKit Go.Proofs.YtfeihligcondgaaDoor.Q Go.Proofs.YtfeihligcondgaaDoorW.PrintWords Go.Proofs.YtfeihligcondgaaDoorW.PrintLast Go.Proofs.YtfeihligcondgaaDoorW.PrintMore
set_option linter.unusedVariables false
set_option linter.unusedSimpArgs false
def rdL (l : List UInt8) : List UInt8 := (l.reverse.dropWhile blC).reverse
theorem rd_snoc (l : List UInt8) (b : UInt8) : rdL (l ++ [b]) = if blC b then rdL l else l ++ [b] := by
  unfold rdL
  rw [List.reverse_append, List.reverse_singleton, List.singleton_append, List.dropWhile_cons]
  split <;> simp
theorem bl_num (b : UInt8) : blC b = true ↔ ((b.toNat : Int) = 32 ∨ (b.toNat : Int) = 9) := by
  unfold blC
  simp only [Bool.or_eq_true, beq_iff_eq]
  constructor
  · rintro (h | h)
    · left; rw [h]; rfl
    · right; rw [h]; rfl
  · rintro (h | h)
    · left; exact (c_eq b 32).1 h
    · right; exact (c_eq b 9).1 h
theorem seg_snoc {s : ByteArray} {m n : Nat} (hm : m ≤ n) (hn : n < s.size) : ∃ b, bt s (n : Int) = (b.toNat : Int) ∧ ((L s).drop m).take (n + 1 - m) = ((L s).drop m).take (n - m) ++ [b] := by
  have hd := List.drop_eq_getElem_cons (l := L s) (i := n) (by rw [L_len]; exact hn)
  refine ⟨_, bt_of hd, ?_⟩
  rw [show n + 1 - m = (n - m) + 1 by omega, List.take_succ_eq_append_getElem (by rw [List.length_drop, L_len]; omega)]
  congr 1
  rw [List.getElem_drop]
  congr 1
  congr 1
  omega
theorem ref_trim_l1 {s : ByteArray} (hs : s.size ≤ 70368744177) : ∀ (d m n : Nat), n = m + d → n ≤ s.size → Ev (fun k => postriderref04_Trim.l1 k s (m : Int) (n : Int)) (B (rdL (((L s).drop m).take (n - m)))) := by
  intro d
  induction d with
  | zero =>
    intro m n e hn
    obtain rfl : n = m := by omega
    refine Ev.eq (f := fun _ => some _) (fun k => ?_) (Ev.pure _)
    simp only [postriderref04_Trim.l1]
    rw [if_neg (by omega), if_pos (by omega), if_pos (by omega), if_pos (by omega), ext_B]
    simp only [Int.toNat_natCast, Nat.sub_self, List.take_zero]
    rfl
  | succ d ih =>
    intro m n e hn
    obtain ⟨n, rfl⟩ : ∃ j, n = j + 1 := ⟨n - 1, by omega⟩
    have ew : wrap64 (((n + 1 : Nat) : Int) - 1) = (n : Int) := by rw [wk (by omega) (by omega)]; omega
    obtain ⟨b, hb, hseg⟩ := seg_snoc (s := s) (m := m) (n := n) (by omega) (by omega)
    rw [hseg, rd_snoc]
    by_cases h : blC b = true
    · rw [if_pos h]
      refine Ev.eq (f := fun k => postriderref04_Trim.l1 k s (m : Int) (n : Int)) (fun k => ?_) (ih m n (by omega) (by omega))
      simp only [postriderref04_Trim.l1]
      rw [if_pos (by omega), ew, if_pos (by omega), if_pos (by omega), hb]
      rcases (bl_num b).1 h with h1 | h1
      · rw [if_pos h1]
      · by_cases h2 : (b.toNat : Int) = 32
        · rw [if_pos h2]
        · rw [if_neg h2, if_pos h1]
    · rw [if_neg h]
      have hn1 : ¬ (b.toNat : Int) = 32 := fun e => h ((bl_num b).2 (.inl e))
      have hn2 : ¬ (b.toNat : Int) = 9 := fun e => h ((bl_num b).2 (.inr e))
      refine Ev.eq (f := fun _ => some _) (fun k => ?_) (Ev.pure _)
      simp only [postriderref04_Trim.l1]
      rw [if_pos (by omega), ew, if_pos (by omega), if_pos (by omega), hb, if_neg hn1, if_neg hn2, if_pos (by omega), if_pos (by omega), if_pos (by omega), ext_B]
      simp only [Int.toNat_natCast]
      rw [hseg]
theorem ref_trim_l0 {s : ByteArray} (hs : s.size ≤ 70368744177) : ∀ (l : List UInt8) (n : Nat), (L s).drop n = l → n ≤ s.size → Ev (fun k => postriderref04_Trim.l0 k s (n : Int) (s.size : Int)) (B (rdL (l.dropWhile blC))) := by
  intro l
  induction l with
  | nil =>
    intro n hd hn
    have h1 := drop_end hd
    obtain rfl : n = s.size := by omega
    have := ref_trim_l1 hs 0 s.size s.size rfl (Nat.le_refl _)
    rw [Nat.sub_self, List.take_zero] at this
    refine Ev.eq (f := fun k => postriderref04_Trim.j1 k s (s.size : Int) (s.size : Int)) (fun k => ?_) (Ev.eq (fun k => ?_) this)
    · simp only [postriderref04_Trim.l0]; rw [if_neg (by omega)]
    · simp only [postriderref04_Trim.j1]
  | cons c l ih =>
    intro n hd hn
    have hlt := drop_lt hd
    have hb := bt_of hd
    have ew := w1 hlt (by omega)
    rw [List.dropWhile_cons]
    by_cases h : blC c = true
    · rw [if_pos h]
      refine Ev.eq (f := fun k => postriderref04_Trim.l0 k s ((n + 1 : Nat) : Int) (s.size : Int)) (fun k => ?_) (ih (n + 1) (drop_next hd) (by omega))
      simp only [postriderref04_Trim.l0]
      rw [if_pos (by omega), if_pos (by omega), if_pos (by omega), hb, ew]
      rcases (bl_num c).1 h with h1 | h1
      · rw [if_pos h1]
      · by_cases h2 : (c.toNat : Int) = 32
        · rw [if_pos h2]
        · rw [if_neg h2, if_pos h1]
    · rw [if_neg h]
      have hn1 : ¬ (c.toNat : Int) = 32 := fun e => h ((bl_num c).2 (.inl e))
      have hn2 : ¬ (c.toNat : Int) = 9 := fun e => h ((bl_num c).2 (.inr e))
      have := ref_trim_l1 hs (s.size - n) n s.size (by omega) (Nat.le_refl _)
      rw [List.take_of_length_le (by rw [List.length_drop, L_len]; exact Nat.le_refl _), hd] at this
      refine Ev.eq (f := fun k => postriderref04_Trim.j1 k s (n : Int) (s.size : Int)) (fun k => ?_) (Ev.eq (fun k => ?_) this)
      · simp only [postriderref04_Trim.l0]
        rw [if_pos (by omega), if_pos (by omega), if_pos (by omega), hb, if_neg hn1, if_neg hn2]
      · simp only [postriderref04_Trim.j1]
theorem ref_trim_f {s : ByteArray} (hs : s.size ≤ 70368744177) : Ev (fun k => postriderref04_Trim.f k s) (B (trimL (L s))) := ref_trim_l0 hs (L s) 0 rfl (by omega)
theorem plain_all {s : ByteArray} : text_Plain.f s = some ((L s).all plC) := rfl
theorem ref_plain_c (c : UInt8) : postriderref04_plain.f (c.toNat : Int) = some (plC c) := by
  unfold postriderref04_plain.f plC
  by_cases h : 32 ≤ c.toNat
  · rw [if_pos (by omega)]; simp [h]; omega
  · rw [if_neg (by omega)]; simp [h]
theorem ref_plain_l {s : ByteArray} (hs : s.size ≤ 70368744177) : ∀ (l : List UInt8) (n : Nat), (L s).drop n = l → n ≤ s.size → Ev (fun k => postriderref04_Plain.l0 k s (n : Int)) (l.all plC) := by
  intro l
  induction l with
  | nil =>
    intro n hd hn
    have := drop_end hd
    exact Ev.eq (f := fun _ => some _) (fun k => by simp only [postriderref04_Plain.l0]; rw [if_neg (by omega)]; rfl) (Ev.pure _)
  | cons c l ih =>
    intro n hd hn
    have hlt := drop_lt hd
    have hb := bt_of hd
    have ew := w1 hlt (by omega)
    by_cases c1 : plC c
    · refine Ev.eq (f := fun k => postriderref04_Plain.l0 k s ((n + 1 : Nat) : Int)) (fun k => ?_) ?_
      · simp only [postriderref04_Plain.l0]
        rw [if_pos (by omega), if_pos (by omega), hb, ref_plain_c, ew]
        simp only [Option.bind_some, c1, if_true]
      · have := ih (n + 1) (drop_next hd) (by omega)
        simpa [c1] using this
    · refine Ev.eq (f := fun _ => some _) (fun k => ?_) (Ev.pure _)
      simp only [postriderref04_Plain.l0]
      rw [if_pos (by omega), if_pos (by omega), hb, ref_plain_c]
      simp [c1]
theorem ref_plain_a {s : ByteArray} (hs : s.size ≤ 70368744177) : Ev (fun k => postriderref04_Plain.f k s) ((L s).all plC) := ref_plain_l hs (L s) 0 rfl (by omega)
theorem same_f {x y : ByteArray} (hx : x.size ≤ 70368744177) (hy : y.size ≤ 70368744177) : text_Same.f x y = some ((B ((L x).map lowC)).toList == (B ((L y).map lowC)).toList) := by
  unfold text_Same.f
  rw [lower_f hx, lower_f hy]; rfl
end Go.Proofs.YtfeihligcondgaaDoor.S
