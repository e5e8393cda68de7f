/- Of any tick: it lies within its day, the day's first tick is of that day and the tick ahead of it of the day before; the date of a day's first tick ends with midnight. -/
import Derived.Test.YtoigafnaoaafeaaDoorP
import Derived.Test.YtoigafnaoaafeaaDoorQx2
namespace Go.Proofs.YtoigafnaoaafeaaDoor.Pure
open Go.RowKit Go.Proofs.YtoigafnaoaafeaaDoor.Q Go.Proofs.YtoigafnaoaafeaaDoor.S Go.Proofs.YtoigafnaoaafeaaDoorW.PrintWords Go.Proofs.YtoigafnaoaafeaaDoorW.PrintLast Go.Proofs.YtoigafnaoaafeaaDoorW.PrintMore
set_option linter.unusedVariables false
set_option linter.unusedSimpArgs false
theorem clT_in {t : Int} (h0 : 0 ≤ t) (h1 : t ≤ 1099511627776) : clT t = t := by unfold clT; rw [if_neg (by omega), if_neg (by omega)]
theorem midnight (day y : Int) (m : Nat) (d : Int) : (B (dateL day 0 y m d)).size ≥ 15 ∧ (B (dateL day 0 y m d)).extract ((B (dateL day 0 y m d)).size - 15) (B (dateL day 0 y m d)).size = B [32, 48, 48, 58, 48, 48, 58, 48, 48, 32, 43, 48, 48, 48, 48] := by
  obtain ⟨a, ha⟩ : ∃ a, dateL day 0 y m d = a ++ [32, 48, 48, 58, 48, 48, 58, 48, 48, 32, 43, 48, 48, 48, 48] := by
    refine ⟨wdL day ++ ([44, 32] ++ (tw (d + 1) ++ ([32] ++ (moL m ++ ([32] ++ Lib.itoa y))))), ?_⟩
    have e : clockL 0 = [48, 48, 58, 48, 48, 58, 48, 48] := by decide
    unfold dateL
    rw [e]
    simp only [List.append_assoc, List.cons_append, List.nil_append]
  rw [ha]
  have hl : (a ++ [32, 48, 48, 58, 48, 48, 58, 48, 48, 32, 43, 48, 48, 48, 48]).length = a.length + 15 := by simp
  refine ⟨by rw [bsz, hl]; omega, ?_⟩
  refine L_inj ?_
  rw [L_ext_end, L_B, L_B, bsz, hl, show a.length + 15 - 15 = a.length by omega, List.drop_left]
theorem StampDays : postriderlaw09_StampDays.Pure := by
  intro a0 h0
  have hb : -9223372036854775808 ≤ a0 ∧ a0 ≤ 9223372036854775807 := by simpa [Lit.wf, IntKind.min, IntKind.max, IntKind.signed, IntKind.bits] using h0
  apply Ev.to
  unfold postriderlaw09_StampDays.f
  obtain ⟨u, hu⟩ : ∃ u, IntKind.u64.wrap a0 = u := ⟨_, rfl⟩
  have hu0 : 0 ≤ u := by rw [← hu]; unfold IntKind.wrap; simp [IntKind.signed, IntKind.bits]; omega
  rw [hu, tm hu0, wk (x := u % 1099511627777) (by omega) (by omega)]
  obtain ⟨t, ht⟩ : ∃ t, u % 1099511627777 = t := ⟨_, rfl⟩
  rw [ht]
  have r0 : 0 ≤ t := by omega
  have r1 : t ≤ 1099511627776 := by omega
  clear ht hu hu0
  refine Ev.bindc (day_f t) ?_
  rw [clT_in r0 r1]
  obtain ⟨q, hq⟩ : ∃ q, t / 86400 = q := ⟨_, rfl⟩
  rw [hq]
  have q0 : 0 ≤ q := by omega
  have q1 : q * 86400 ≤ t := by omega
  have q2 : t < (q + 1) * 86400 := by omega
  clear hq
  have e1 : wrap64 (q * 86400) = q * 86400 := wk (by omega) (by omega)
  have e2 : wrap64 (q + 1) = q + 1 := wk (by omega) (by omega)
  have e3 : wrap64 ((q + 1) * 86400) = (q + 1) * 86400 := wk (by omega) (by omega)
  rw [e1, e2, e3]
  have fin : Ev (fun k => postriderlaw09_StampDays.j0 k q false) true := by
    obtain ⟨y, m, d, H, g1, g2⟩ := date_is (q * 86400)
    have hd := date_f H g1 g2
    rw [clT_in (by omega) (by omega), show q * 86400 / 86400 = q by omega, show q * 86400 % 86400 = 0 by omega] at hd
    refine Ev.eq (f := fun k => (stamp_Date.f k (q * 86400)).bind fun t132 => ((strings_HasSuffix.f t132 (⟨#[32, 48, 48, 58, 48, 48, 58, 48, 48, 32, 43, 48, 48, 48, 48]⟩ : ByteArray)).bind fun t133 => (if t133 = true then ((postriderlaw09_wakes.f k).bind fun t134 => (some t134)) else (some false)))) (fun k => ?_) ?_
    · simp only [postriderlaw09_StampDays.j0]
      rw [if_neg (by simp), e1]
    · refine Ev.bind2 hd ?_
      obtain ⟨m1, m2⟩ := midnight q y m d
      have hs : (⟨#[32, 48, 48, 58, 48, 48, 58, 48, 48, 32, 43, 48, 48, 48, 48]⟩ : ByteArray).size = 15 := rfl
      have hz : (B (dateL q 0 y m d)).size ≤ 60 := by
        have hi := itoa_len (y := y) (by omega) (by omega)
        have hw := wd_len q
        have hmo := mo_len H.m12
        rw [bsz]
        unfold dateL clockL
        simp only [List.length_append, tw_len, List.length_cons, List.length_nil]
        omega
      obtain ⟨z, hz2⟩ : ∃ z, B (dateL q 0 y m d) = z := ⟨_, rfl⟩
      rw [hz2] at m1 m2 hz ⊢
      refine Ev.bindc (a := true) ?_ ?_
      · unfold strings_HasSuffix.f stringslite_HasSuffix.f
        rw [hs, if_pos (by omega), wk (by omega) (by omega), if_pos (by omega), if_pos (by omega), show ((z.size : Int) - ((15 : Nat) : Int)).toNat = z.size - 15 by omega, m2]
        have hx : ∀ x : ByteArray, ((some (x.toList == x.toList)).bind fun t128 => some t128) = some true := fun x => by rw [beq_self_eq_true]; rfl
        exact hx _
      · simp only [if_true]
        exact Ev.bind2 wakes_f (Ev.pure _)
  simp only [show ¬ (t < q * 86400) by omega, show ¬ (t ≥ (q + 1) * 86400) by omega, if_false]
  refine Ev.bindc (day_f (q * 86400)) ?_
  rw [clT_in (by omega) (by omega), show q * 86400 / 86400 = q by omega]
  simp only [if_true]
  by_cases c : q > 0
  · simp only [c, if_true]
    have e4 : wrap64 (q * 86400 - 1) = q * 86400 - 1 := wk (by omega) (by omega)
    have e5 : wrap64 (q - 1) = q - 1 := wk (by omega) (by omega)
    rw [e4, e5]
    refine Ev.bindc (day_f (q * 86400 - 1)) ?_
    rw [clT_in (by omega) (by omega), show (q * 86400 - 1) / 86400 = q - 1 by omega]
    simp only [bne_self_eq_false]
    exact fin
  · simp only [c, if_false]
    exact fin
end Go.Proofs.YtoigafnaoaafeaaDoor.Pure
