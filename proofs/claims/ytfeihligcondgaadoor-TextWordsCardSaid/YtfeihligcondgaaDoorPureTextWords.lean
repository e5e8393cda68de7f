/- Of any two texts, any byte and any number: what the text layer tells (small letters, the same, plain, atoms, dot-atoms, trimming, splitting, numbers) is what the document tells (the first 200 bytes of each). -/
import Derived.Test.YtfeihligcondgaaDoorZ
import Derived.Test.YtfeihligcondgaaDoorK
import Derived.Test.YtfeihligcondgaaDoorQx7
namespace Go.Proofs.YtfeihligcondgaaDoor.Pure
open Go.RowKit Go.Proofs.YtfeihligcondgaaDoor.Q Go.Proofs.YtfeihligcondgaaDoor.S Go.Proofs.YtfeihligcondgaaDoorW.PrintWords Go.Proofs.YtfeihligcondgaaDoorW.PrintLast Go.Proofs.YtfeihligcondgaaDoorW.PrintMore
set_option linter.unusedVariables false
set_option linter.unusedSimpArgs false
theorem words_l0 (x y : ByteArray) (hx : x.size ≤ 200) (hy : y.size ≤ 200) (n e : Int) (l : List ByteArray) (hl : l.length ≤ 1000) : ∀ (d j : Nat), d + j = l.length →
    Ev (fun k => postriderlaw04_TextWords.l0 k x y n e n e l l (j : Int)) true := by
  intro d
  induction d with
  | zero =>
    intro j h
    have hx' : x.size ≤ 70368744177 := by omega
    have hy' : y.size ≤ 70368744177 := by omega
    refine Ev.eq (f := fun k => ((postriderref04_Lower.f k x).bind fun t165 => ((postriderref04_Lower.f k y).bind fun t166 => ((text_Lower.f x).bind fun t167 => ((postriderref04_Lower.f k x).bind fun t168 => (if t167.toList = t168.toList then ((text_Same.f x y).bind fun t169 => (if (t169 == (t165.toList == t166.toList)) = true then ((text_Plain.f x).bind fun t170 => ((postriderref04_Plain.f k x).bind fun t171 => (if (t170 == t171) = true then ((text_Atom.f x).bind fun t172 => ((postriderref04_Atom.f k x).bind fun t173 => (if (t172 == t173) = true then ((text_DotAtom.f k x).bind fun t174 => ((postriderref04_DotAtom.f k x).bind fun t175 => (if (t174 == t175) = true then ((text_Trim.f x).bind fun t176 => ((postriderref04_Trim.f k x).bind fun t177 => (if t176.toList = t177.toList then (if n = n then (if e = e then ((postriderlaw04_tells.f k).bind fun t178 => (some t178)) else (some false)) else (some false)) else (some false)))) else (some false)))) else (some false)))) else (some false)))) else (some false))) else (some false))))))) (fun k => ?_) ?_
    · simp only [postriderlaw04_TextWords.l0]
      rw [if_neg (by omega)]
    · refine Ev.bind2 (ref_lower_f hx') (Ev.bind2 (ref_lower_f hy') (Ev.bindc (lower_f hx') (Ev.bind2 (ref_lower_f hx') ?_)))
      simp only [if_true]
      refine Ev.bindc (same_f hx' hy') ?_
      simp only [beq_self_eq_true, if_true]
      refine Ev.bindc plain_all (Ev.bind2 (ref_plain_a hx') ?_)
      simp only [beq_self_eq_true, if_true]
      refine Ev.bindc (a := atomB x) (by unfold text_Atom.f; rw [if_pos (by omega)]) (Ev.bind2 (ref_atom_f hx') ?_)
      simp only [beq_self_eq_true, if_true]
      refine Ev.bind2 (dot_f hx') (Ev.bind2 (ref_dot_f hx') ?_)
      simp only [beq_self_eq_true, if_true]
      refine Ev.bindc (trim_f hx') (Ev.bind2 (ref_trim_f hx') ?_)
      simp only [if_true]
      exact Ev.bind2 tells_f (Ev.pure _)
  | succ d ih =>
    intro j h
    refine Ev.eq (f := fun k => postriderlaw04_TextWords.l0 k x y n e n e l l ((j + 1 : Nat) : Int)) (fun k => ?_) (ih (j + 1) (by omega))
    simp only [postriderlaw04_TextWords.l0]
    rw [if_pos (by omega), if_pos (by omega), if_pos (by omega), if_pos trivial, w1 (n := j) (m := l.length) (by omega) (by omega)]
theorem TextWords : postriderlaw04_TextWords.Pure := by
  intro a0 a1 a2 a3 h0 h1 h2 h3
  have hm := mn_le (a0.size : Int) 200
  have hn := mn_nat a0.size 200
  have hm1 := mn_le (a1.size : Int) 200
  have hn1 := mn_nat a1.size 200
  have ha2 : 0 ≤ a2 ∧ a2 ≤ 255 := by simpa [Lit.wf, IntKind.min, IntKind.max, IntKind.signed, IntKind.bits] using h2
  obtain ⟨c, rfl⟩ : ∃ c : UInt8, a2 = (c.toNat : Int) := ⟨UInt8.ofNat a2.toNat, by rw [UInt8.toNat_ofNat']; omega⟩
  obtain ⟨x, hx⟩ : ∃ x, x = a0.extract 0 ((mn (a0.size : Int) 200) : Int).toNat := ⟨_, rfl⟩
  obtain ⟨y, hy⟩ : ∃ y, y = a1.extract 0 ((mn (a1.size : Int) 200) : Int).toNat := ⟨_, rfl⟩
  have hxs : x.size ≤ 200 := by rw [hx, ByteArray.size_extract]; omega
  have hys : y.size ≤ 200 := by rw [hy, ByteArray.size_extract]; omega
  apply Ev.to
  unfold postriderlaw04_TextWords.f
  rw [← hx, ← hy]
  have k1 : 0 ≤ mn (a0.size : Int) 200 := by omega
  have k2 : mn (a0.size : Int) 200 ≤ (a0.size : Int) := by omega
  have k3 : 0 ≤ mn (a1.size : Int) 200 := by omega
  have k4 : mn (a1.size : Int) 200 ≤ (a1.size : Int) := by omega
  simp only [k1, k2, k3, k4, if_true]
  refine Ev.bindc (number_f (by omega) a3) (Ev.bind2 (ref_number_f (by omega) a3) (Ev.bind2 (split_f (by omega)) (Ev.bind2 (ref_split_f (by omega)) ?_)))
  simp only [if_true]
  have hlen : ((spL c (L x) []).map B).length ≤ 1000 := by
    rw [List.length_map]; have := sp_len c (L x) []; rw [L_len] at this; omega
  exact words_l0 x y hxs hys _ _ _ hlen _ 0 rfl
end Go.Proofs.YtfeihligcondgaaDoor.Pure
