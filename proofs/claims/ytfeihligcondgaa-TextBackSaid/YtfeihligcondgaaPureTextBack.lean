/- Of every text, whatever stands behind it, and wherever it is cut: a plain text is what its quoted string stands for; what a quoted string stands for, quoted again, stands for the same in no more bytes; cut short it is ErrShort (the first 150 bytes of each). -/
import Derived.Test.YtfeihligcondgaaU
import Derived.Test.YtfeihligcondgaaV
import Derived.Test.YtfeihligcondgaaQx5
namespace Go.Proofs.Ytfeihligcondgaa.Pure
open Go.RowKit Go.Proofs.Ytfeihligcondgaa.Q Go.Proofs.Ytfeihligcondgaa.S Go.Proofs.YtfeihligcondgaaW.PrintWords Go.Proofs.YtfeihligcondgaaW.PrintLast Go.Proofs.YtfeihligcondgaaW.PrintMore
set_option linter.unusedVariables false
set_option linter.unusedSimpArgs false
theorem qd_q (l b : List UInt8) (h : l.all plC = true) : qd (34 :: (qtM l ++ [34]) ++ b) = (l, (qtM l).length + 2, 0) := by
  simp only [qd, List.cons_append, if_true]
  rw [List.append_assoc, List.singleton_append, qd_quote b l [] 1 h]
  simp only [List.nil_append, Prod.mk.injEq, true_and, and_true]
  omega
theorem back_j1 (x : ByteArray) (hx : x.size ≤ 150) : Ev (fun k => postriderlaw04_TextBack.j1 k x) true := by
  have hq := quoted_f (s := x) (by omega)
  refine Ev.eq (f := fun k => (text_Quoted.f k x).bind fun bt164 => (if bt164.2.2 = 0 then (if bt164.2.1 < 2 then (postriderlaw04_TextBack.j2 k x bt164.1 bt164.2.1 true) else (postriderlaw04_TextBack.j2 k x bt164.1 bt164.2.1 (decide (bt164.2.1 > (x.size : Int))))) else (if bt164.1.toList = ([] : List UInt8) then (if bt164.2.1 = 0 then ((postriderlaw04_tells.f k).bind fun t167 => (some t167)) else (some false)) else (some false)))) (fun k => by simp only [postriderlaw04_TextBack.j1]) ?_
  have ht : (qd (L x)).2.2 ≠ 0 ∧ (qd (L x)).1 = [] ∧ (qd (L x)).2.1 = 0 ∨ (qd (L x)).2.2 = 0 ∧ ∃ j, (qd (L x)).1.all plC = true ∧ (qd (L x)).2.1 = j + 2 ∧ (qtM (qd (L x)).1).length ≤ j ∧ (L x)[j + 1]? = some 34 := by
    cases hl : L x with
    | nil => left; simp [qd]
    | cons c l =>
      by_cases c1 : c = 34
      · simp only [qd, c1, if_true]
        rcases qd_tells l.length l [] 1 (Nat.le_refl _) with h | ⟨h1, y, j, h2, h3, h4, h5, h6⟩
        · exact .inl h
        · refine .inr ⟨h1, j, by rw [h2]; simpa using h3, by omega, by rw [h2]; simpa using h5, by simpa using h6⟩
      · left; simp [qd, c1]
  generalize qd (L x) = r at ht hq
  obtain ⟨t, n, e⟩ := r
  dsimp only at ht
  have hq : Ev (fun k => text_Quoted.f k x) (B t, (n : Int), (e : Int)) := hq
  refine Ev.bind2 hq ?_
  dsimp only
  rcases ht with ⟨he, rfl, rfl⟩ | ⟨rfl, j, h1, rfl, h2, h3⟩
  · have he' : ¬ (e : Int) = 0 := by omega
    simp only [he', if_false]
    have : (B []).toList = ([] : List UInt8) := by rw [toL, L_B]
    simp only [this, if_true, Int.natCast_zero]
    exact Ev.bind2 tells_f (Ev.pure _)
  · have hj : j + 1 < x.size := by
      rw [← L_len]
      exact (List.getElem?_eq_some_iff.1 h3).1
    have hlt : ¬ ((j + 2 : Nat) : Int) < 2 := by omega
    have hgt : decide (((j + 2 : Nat) : Int) > (x.size : Int)) = false := decide_eq_false (by omega)
    simp only [Int.natCast_zero, if_true, hlt, if_false, hgt]
    have hm := qtM_len t
    have hts : (B t).size ≤ 150 := by rw [B_size]; omega
    have hqf := quote_f (s := B t) (by omega)
    rw [L_B, if_pos h1] at hqf
    have hqs : (B (34 :: (qtM t ++ [34]))).size ≤ 400 := by rw [B_size]; simp; omega
    have hqd := quoted_f (s := B (34 :: (qtM t ++ [34]))) (by omega)
    have e1 := qd_q t [] h1
    rw [List.append_nil] at e1
    rw [L_B, e1] at hqd
    refine Ev.eq (f := fun k => (text_Quote.f (B t)).bind fun bt168 => ((text_Quoted.f k bt168.1).bind fun bt170 => (if bt168.2 = 0 then (if bt170.2.2 = 0 then (if bt170.1.toList = (B t).toList then (if bt170.2.1 = (bt168.1.size : Int) then (if bt170.2.1 ≤ ((j + 2 : Nat) : Int) then (if 0 ≤ (wrap64 (((j + 2 : Nat) : Int) - 1)) then (if (wrap64 (((j + 2 : Nat) : Int) - 1)) < (x.size : Int) then (if (bt x (wrap64 (((j + 2 : Nat) : Int) - 1))) = 34 then ((postriderlaw04_tells.f k).bind fun t173 => (some t173)) else (some false)) else (none)) else (none)) else (some false)) else (some false)) else (some false)) else (some false)) else (some false)))) (fun k => by simp only [postriderlaw04_TextBack.j2]; rw [if_neg (by decide)]) ?_
    refine Ev.bindc hqf (Ev.bind2 hqd ?_)
    have ew : wrap64 (((j + 2 : Nat) : Int) - 1) = ((j + 1 : Nat) : Int) := by rw [wk (by omega) (by omega)]; omega
    have hsz : (((qtM t).length + 2 : Nat) : Int) = ((B (34 :: (qtM t ++ [34]))).size : Int) := by rw [B_size]; simp; omega
    have hle : (((qtM t).length + 2 : Nat) : Int) ≤ ((j + 2 : Nat) : Int) := by omega
    have hb : bt x ((j + 1 : Nat) : Int) = 34 := by
      have hd : (L x).drop (j + 1) = 34 :: (L x).drop (j + 2) := by
        rw [List.drop_eq_getElem_cons (by rw [L_len]; exact hj)]
        congr 1
        exact (List.getElem?_eq_some_iff.1 h3).2
      rw [bt_of hd]; rfl
    have h0 : (0 : Int) ≤ ((j + 1 : Nat) : Int) := by omega
    have hl : ((j + 1 : Nat) : Int) < (x.size : Int) := by omega
    simp only [res3, ew, hb, h0, hl, hle, if_true, Int.natCast_zero, hsz]
    have hle2 : (((B (34 :: (qtM t ++ [34]))).size : Nat) : Int) ≤ ((j + 2 : Nat) : Int) := by omega
    simp only [hle2, if_true]
    exact Ev.bind2 tells_f (Ev.pure _)
theorem TextBack : postriderlaw04_TextBack.Pure := by
  intro a0 a1 a2 h0 h1 h2
  have hm := mn_le (a0.size : Int) 150
  have hn := mn_nat a0.size 150
  have hm1 := mn_le (a1.size : Int) 150
  have hn1 := mn_nat a1.size 150
  have ha2 : 0 ≤ a2 ∧ a2 ≤ 255 := by simpa [Lit.wf, IntKind.min, IntKind.max, IntKind.signed, IntKind.bits] using h2
  obtain ⟨x, hx⟩ : ∃ x, x = a0.extract 0 ((mn (a0.size : Int) 150) : Int).toNat := ⟨_, rfl⟩
  obtain ⟨y, hy⟩ : ∃ y, y = a1.extract 0 ((mn (a1.size : Int) 150) : Int).toNat := ⟨_, rfl⟩
  have hxs : x.size ≤ 150 := by rw [hx, ByteArray.size_extract]; omega
  have hys : y.size ≤ 150 := by rw [hy, ByteArray.size_extract]; omega
  apply Ev.to
  unfold postriderlaw04_TextBack.f
  rw [← hx, ← hy]
  have k1 : 0 ≤ mn (a0.size : Int) 150 := by omega
  have k2 : mn (a0.size : Int) 150 ≤ (a0.size : Int) := by omega
  have k3 : 0 ≤ mn (a1.size : Int) 150 := by omega
  have k4 : mn (a1.size : Int) 150 ≤ (a1.size : Int) := by omega
  simp only [k1, k2, k3, k4, if_true]
  refine Ev.bindc (quote_f (s := x) (by omega)) ?_
  clear hx hy hm hn hm1 hn1 k1 k2 k3 k4 h0 h1 h2
  by_cases hp : (L x).all plC = true
  · rw [if_pos hp]
    have hl := qtM_len (L x)
    rw [L_len] at hl
    obtain ⟨q, hq⟩ : ∃ q, q = B (34 :: (qtM (L x) ++ [34])) := ⟨_, rfl⟩
    have hqs : q.size = (qtM (L x)).length + 2 := by rw [hq, B_size]; simp
    rw [← hq]
    have hqy := quoted_f (s := q ++ y) (by rw [ByteArray.size_append]; omega)
    have e1 := qd_q (L x) (L y) hp
    rw [L_app, hq, L_B, e1] at hqy
    rw [← hq] at hqy
    have c1 : q.size + y.size ≤ 9223372036854775807 := by omega
    simp only [if_true, c1]
    refine Ev.bind2 hqy ?_
    simp only [res3, B_L, Int.natCast_zero, if_true]
    have c2 : (((qtM (L x)).length + 2 : Nat) : Int) = (q.size : Int) := by omega
    have c3 : ¬ (q.size : Int) < wrap64 ((x.size : Int) + 2) := by rw [wk (by omega) (by omega)]; omega
    simp only [c2, if_true, c3, if_false]
    refine Ev.bindc (a := true) (by unfold text_Plain.f; rw [plainB_eq, hp]) ?_
    have hmod : Int.tmod (wrap64 a2) (q.size : Int) = ((a2.toNat % q.size : Nat) : Int) := by
      rw [wk (by omega) (by omega)]
      obtain ⟨b, hb⟩ := Int.eq_ofNat_of_zero_le ha2.1
      rw [hb, Int.toNat_natCast]; rfl
    have hml : a2.toNat % q.size < q.size := Nat.mod_lt _ (by omega)
    obtain ⟨m, hm⟩ : ∃ m, m = a2.toNat % q.size := ⟨_, rfl⟩
    rw [← hm] at hmod hml
    have d1 : ¬ (q.size : Int) = 0 := by omega
    have d2 : 0 ≤ (m : Int) := by omega
    have d3 : (m : Int) ≤ (q.size : Int) := by omega
    have hcut := quoted_f (s := q.extract 0 m) (by rw [ByteArray.size_extract]; omega)
    refine Ev.eq (f := fun k => (text_Quoted.f k (q.extract 0 m)).bind fun bt160 => (if (m : Int) > 0 then (if bt160.2.2 = 4 then (if bt160.2.1 = 0 then (postriderlaw04_TextBack.j1 k y) else (some false)) else (some false)) else (postriderlaw04_TextBack.j1 k y))) (fun k => ?_) (Ev.bind2 hcut ?_)
    · simp only [postriderlaw04_TextBack.j0, hmod, d1, d2, d3, if_true, if_false, Int.toNat_natCast]
      rfl
    · by_cases hm0 : m = 0
      · have : ¬ (m : Int) > 0 := by omega
        simp only [this, if_false]
        exact back_j1 y hys
      · have : (m : Int) > 0 := by omega
        have e2 : qd (L (q.extract 0 m)) = ([], 0, 4) := by
          rw [L_ext, hq, L_B, List.drop_zero, Nat.sub_zero]
          obtain ⟨j, rfl⟩ : ∃ j, m = j + 1 := ⟨m - 1, by omega⟩
          rw [List.take_succ_cons]
          simp only [qd, if_true]
          rw [List.take_append_of_le_length (by omega)]
          exact qd_cut (L x) [] 1 j hp (by omega)
        rw [e2]
        simp only [this, if_true, res3, Int.natCast_zero]
        exact back_j1 y hys
  · rw [if_neg hp]
    have c1 : ¬ (5 : Int) = 0 := by decide
    have c2 : (B []).toList = ([] : List UInt8) := by rw [toL, L_B]
    simp only [c1, if_false, if_true, c2]
    refine Ev.bindc (a := false) (by unfold text_Plain.f; rw [plainB_eq, Bool.eq_false_iff.mpr hp]) ?_
    simp only [Bool.false_eq_true, if_false]
    exact back_j1 y hys
end Go.Proofs.Ytfeihligcondgaa.Pure
