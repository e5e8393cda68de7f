/- What the text layer's functions come to. -/
import Derived.Test.YtdciiahlakgikaaDoorTX
import Derived.Test.YtdciiahlakgikaaDoorQx0
import Derived.Test.YtdciiahlakgikaaDoorQx7
namespace Go.Proofs.YtdciiahlakgikaaDoor.S
open Go.RowKit Go.Proofs.YtdciiahlakgikaaDoor.Q Go.Proofs.YtdciiahlakgikaaDoorW.PrintWords Go.Proofs.YtdciiahlakgikaaDoorW.PrintLast Go.Proofs.YtdciiahlakgikaaDoorW.PrintMore
set_option linter.unusedVariables false
set_option linter.unusedSimpArgs false
theorem trim_f {x : ByteArray} (hx : x.size ≤ 70368744177) : text_Trim.f x = some (B (trimL (L x))) := by
  unfold text_Trim.f strings_Trim.f
  rw [if_pos ⟨by omega, by decide, by decide⟩]
  simp only [Option.bind_some]
  have : Lib.trimS x.data.toList (⟨#[32, 9]⟩ : ByteArray).data.toList = trimL (L x) := by
    unfold Lib.trimS Lib.trimLeftS Lib.trimRightS
    simp only [show (⟨#[32, 9]⟩ : ByteArray).data.toList = [32, 9] from rfl, bl_has]
    exact trim_both blC (L x)
  rw [this]; rfl
theorem ref_trim_l1 {s : ByteArray} (hs : s.size ≤ 70368744177) : ∀ (d m n : Nat), n = m + d → n ≤ s.size → Ev (fun k => postriderref04_Trim.l1 k s (m : Int) (n : Int)) (B (rdL (((L s).drop m).take (n - m)))) := by
  intro d
  induction d with
  | zero =>
    intro m n e hn
    obtain rfl : n = m := by omega
    refine Ev.eq (f := fun _ => some _) (fun k => ?_) (Ev.pure _)
    simp only [postriderref04_Trim.l1]
    rw [if_neg (by omega), if_pos (by omega), if_pos (by omega), if_pos (by omega), ext_B]
    simp only [Int.toNat_natCast, Nat.sub_self, List.take_zero]
    rfl
  | succ d ih =>
    intro m n e hn
    obtain ⟨n, rfl⟩ : ∃ j, n = j + 1 := ⟨n - 1, by omega⟩
    have ew : wrap64 (((n + 1 : Nat) : Int) - 1) = (n : Int) := by rw [wk (by omega) (by omega)]; omega
    obtain ⟨b, hb, hseg⟩ := seg_snoc (s := s) (m := m) (n := n) (by omega) (by omega)
    rw [hseg, rd_snoc]
    by_cases h : blC b = true
    · rw [if_pos h]
      refine Ev.eq (f := fun k => postriderref04_Trim.l1 k s (m : Int) (n : Int)) (fun k => ?_) (ih m n (by omega) (by omega))
      simp only [postriderref04_Trim.l1]
      rw [if_pos (by omega), ew, if_pos (by omega), if_pos (by omega), hb]
      rcases (bl_num b).1 h with h1 | h1
      · rw [if_pos h1]
      · by_cases h2 : (b.toNat : Int) = 32
        · rw [if_pos h2]
        · rw [if_neg h2, if_pos h1]
    · rw [if_neg h]
      have hn1 : ¬ (b.toNat : Int) = 32 := fun e => h ((bl_num b).2 (.inl e))
      have hn2 : ¬ (b.toNat : Int) = 9 := fun e => h ((bl_num b).2 (.inr e))
      refine Ev.eq (f := fun _ => some _) (fun k => ?_) (Ev.pure _)
      simp only [postriderref04_Trim.l1]
      rw [if_pos (by omega), ew, if_pos (by omega), if_pos (by omega), hb, if_neg hn1, if_neg hn2, if_pos (by omega), if_pos (by omega), if_pos (by omega), ext_B]
      simp only [Int.toNat_natCast]
      rw [hseg]
theorem ref_trim_l0 {s : ByteArray} (hs : s.size ≤ 70368744177) : ∀ (l : List UInt8) (n : Nat), (L s).drop n = l → n ≤ s.size → Ev (fun k => postriderref04_Trim.l0 k s (n : Int) (s.size : Int)) (B (rdL (l.dropWhile blC))) := by
  intro l
  induction l with
  | nil =>
    intro n hd hn
    have h1 := drop_end hd
    obtain rfl : n = s.size := by omega
    have := ref_trim_l1 hs 0 s.size s.size rfl (Nat.le_refl _)
    rw [Nat.sub_self, List.take_zero] at this
    refine Ev.eq (f := fun k => postriderref04_Trim.j1 k s (s.size : Int) (s.size : Int)) (fun k => ?_) (Ev.eq (fun k => ?_) this)
    · simp only [postriderref04_Trim.l0]; rw [if_neg (by omega)]
    · simp only [postriderref04_Trim.j1]
  | cons c l ih =>
    intro n hd hn
    have hlt := drop_lt hd
    have hb := bt_of hd
    have ew := w1 hlt (by omega)
    rw [List.dropWhile_cons]
    by_cases h : blC c = true
    · rw [if_pos h]
      refine Ev.eq (f := fun k => postriderref04_Trim.l0 k s ((n + 1 : Nat) : Int) (s.size : Int)) (fun k => ?_) (ih (n + 1) (drop_next hd) (by omega))
      simp only [postriderref04_Trim.l0]
      rw [if_pos (by omega), if_pos (by omega), if_pos (by omega), hb, ew]
      rcases (bl_num c).1 h with h1 | h1
      · rw [if_pos h1]
      · by_cases h2 : (c.toNat : Int) = 32
        · rw [if_pos h2]
        · rw [if_neg h2, if_pos h1]
    · rw [if_neg h]
      have hn1 : ¬ (c.toNat : Int) = 32 := fun e => h ((bl_num c).2 (.inl e))
      have hn2 : ¬ (c.toNat : Int) = 9 := fun e => h ((bl_num c).2 (.inr e))
      have := ref_trim_l1 hs (s.size - n) n s.size (by omega) (Nat.le_refl _)
      rw [List.take_of_length_le (by rw [List.length_drop, L_len]; exact Nat.le_refl _), hd] at this
      refine Ev.eq (f := fun k => postriderref04_Trim.j1 k s (n : Int) (s.size : Int)) (fun k => ?_) (Ev.eq (fun k => ?_) this)
      · simp only [postriderref04_Trim.l0]
        rw [if_pos (by omega), if_pos (by omega), if_pos (by omega), hb, if_neg hn1, if_neg hn2]
      · simp only [postriderref04_Trim.j1]
theorem ref_trim_f {s : ByteArray} (hs : s.size ≤ 70368744177) : Ev (fun k => postriderref04_Trim.f k s) (B (trimL (L s))) := ref_trim_l0 hs (L s) 0 rfl (by omega)
end Go.Proofs.YtdciiahlakgikaaDoor.S
