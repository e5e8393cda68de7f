/- Of any two ticks (brought to MaxTicks) and any text (its first 60 bytes): a tick's date is read as the tick, another tick has another date; a day later the clock is the same and the weekday the next one; a second later only the clock's last places change; what is read of a text has just that text. -/
import Derived.Test.YtoigafnaoaafeaaDoorDT
import Derived.Test.YtoigafnaoaafeaaDoorQx4
namespace Go.Proofs.YtoigafnaoaafeaaDoor.Pure
open Go.RowKit Go.Proofs.YtoigafnaoaafeaaDoor.Q Go.Proofs.YtoigafnaoaafeaaDoor.S Go.Proofs.YtoigafnaoaafeaaDoorW.PrintWords Go.Proofs.YtoigafnaoaafeaaDoorW.PrintLast Go.Proofs.YtoigafnaoaafeaaDoorW.PrintMore
set_option linter.unusedVariables false
set_option linter.unusedSimpArgs false
theorem clT_in {t : Int} (h0 : 0 ≤ t) (h1 : t ≤ 1099511627776) : clT t = t := by unfold clT; rw [if_neg (by omega), if_neg (by omega)]
/-- A tick's date, and what it is read as. -/
structure Dt (t : Int) (l : List UInt8) : Prop where
  ex : ∃ y m d, Ymd (t / 86400) y m d ∧ 1970 ≤ y ∧ y ≤ 40000 ∧ l = dateL (t / 86400) (t % 86400) y m d
  ev : Ev (fun k => stamp_Date.f k t) (B l)
  rd : Ev (fun k => stamp_ParseDate.f k (B l)) (t, 0)
theorem dt_of {t : Int} (h0 : 0 ≤ t) (h1 : t ≤ 1099511627776) : ∃ l, Dt t l := by
  obtain ⟨y, m, d, H, e1, e2⟩ := date_is t
  have hd := date_f H e1 e2
  rw [clT_in h0 h1] at H hd
  have hi := itoa_len (y := y) (by omega) (by omega)
  have hw := wd_len (t / 86400)
  have hmo := mo_len H.m12
  have ok := pcOf_ok H (by omega) (rest := t % 86400) (by omega) (by omega) e1 e2
  have hv := pcOf_val H (by omega) (rest := t % 86400) (by omega) (by omega) e1 e2 (by omega)
  have hx := pcOf_txt (t / 86400) (t % 86400) y m d
  have hlen : (dateL (t / 86400) (t % 86400) y m d).length ≤ 1000 := by
    unfold dateL clockL
    simp only [List.length_append, tw_len, List.length_cons, List.length_nil]
    omega
  have key := (code_f (dateL (t / 86400) (t % 86400) y m d) hlen).1 _ ok hx.symm
  rw [hv, show 86400 * (t / 86400) + t % 86400 = t by omega] at key
  exact ⟨_, ⟨y, m, d, H, e1, e2, rfl⟩, hd, key⟩
theorem Dt.len {t : Int} {l : List UInt8} (h : Dt t l) : 29 ≤ l.length ∧ l.length ≤ 60 := by
  obtain ⟨y, m, d, H, e1, e2, rfl⟩ := h.ex
  have hi := itoa_len (y := y) (by omega) (by omega)
  have hi2 := (itoa_year e1 e2).1
  have hw := wd_len (t / 86400)
  have hmo := mo_len H.m12
  unfold dateL clockL
  simp only [List.length_append, tw_len, List.length_cons, List.length_nil]
  omega
/-- The date's front is its weekday; its end the clock and the zone. -/
theorem Dt.parts {t : Int} {l : List UInt8} (h : Dt t l) : ∃ a, l = wdL (t / 86400) ++ a ∧ ∃ b, l = b ++ (clockL (t % 86400) ++ [32, 43, 48, 48, 48, 48]) := by
  obtain ⟨y, m, d, H, e1, e2, rfl⟩ := h.ex
  refine ⟨_, rfl, wdL (t / 86400) ++ ([44, 32] ++ (tw (d + 1) ++ ([32] ++ (moL m ++ ([32] ++ (Lib.itoa y ++ [32])))))), ?_⟩
  unfold dateL
  simp
theorem clock_len (r : Int) : (clockL r).length = 8 := rfl
theorem j3_f (s : ByteArray) (hs : s.size ≤ 140737488351232) : Ev (fun k => postriderlaw09_StampDates.j3 k s) true := by
  have hm := mn_le (s.size : Int) 60
  have e0 : s.extract 0 ((mn (s.size : Int) 60) : Int).toNat = B ((L s).take 60) := firsts s 60
  obtain ⟨l, hl⟩ : ∃ l, l = (L s).take 60 := ⟨_, rfl⟩
  have hlen : l.length ≤ 1000 := by rw [hl, List.length_take]; omega
  rw [← hl] at e0
  refine Ev.eq (f := fun k => (stamp_ParseDate.f k (B l)).bind fun bt184 => (if bt184.2 = 0 then ((stamp_Date.f k bt184.1).bind fun t186 => (if t186.toList = (B l).toList then ((postriderlaw09_wakes.f k).bind fun t187 => (some t187)) else (some false))) else (if bt184.1 = 0 then (if bt184.2 = 5 then ((postriderlaw09_wakes.f k).bind fun t188 => (some t188)) else (if bt184.2 = 24 then ((postriderlaw09_wakes.f k).bind fun t189 => (some t189)) else (some false))) else (some false)))) (fun k => ?_) ?_
  · simp only [postriderlaw09_StampDates.j3]
    rw [if_pos (by omega), if_pos (by omega), e0]
  · obtain ⟨c1, c2⟩ := code_f l hlen
    have fin : Ev (fun k => (postriderlaw09_wakes.f k).bind fun t => (some t)) true := Ev.bind2 wakes_f (Ev.pure _)
    by_cases h : ∃ p : Pc, p.Ok ∧ l = p.txt
    · obtain ⟨p, ok, e⟩ := h
      have key := c1 p ok e
      refine Ev.bind2 key ?_
      by_cases hv : p.val = (0, 24)
      · rw [hv]
        simp only [if_neg (show ¬ (24 : Int) = 0 by omega), if_true, if_neg (show ¬ (24 : Int) = 5 by omega)]
        exact fin
      · obtain ⟨t, ht⟩ : ∃ t, p.val = (t, 0) := by
          unfold Pc.val vl7 at hv ⊢
          split
          · exact ⟨_, rfl⟩
          · rename_i g
            rw [if_neg g] at hv
            exact absurd rfl hv
        obtain ⟨t0, t1, y, m, d, H, y1, y2, hx⟩ := val_back ok ht
        have hd := date_f (t := t) (by rw [clT_in t0 t1]; exact H) y1 y2
        rw [clT_in t0 t1, ← hx, ← e] at hd
        rw [ht]
        simp only [if_true]
        refine Ev.bind2 hd ?_
        simp only [if_true]
        exact fin
    · refine Ev.bind2 (c2 (fun p ok e => h ⟨p, ok, e⟩)) ?_
      simp only [if_neg (show ¬ (5 : Int) = 0 by omega), if_true]
      exact fin
theorem j2_f {t : Int} (h0 : 0 ≤ t) (h1 : t ≤ 1099511627776) (s : ByteArray) (hs : s.size ≤ 140737488351232) (b : Bool) (hb : b = true → t % 60 < 59 ∧ t < 1099511627776) : Ev (fun k => postriderlaw09_StampDates.j2 k t s b) true := by
  cases b with
  | false => exact Ev.eq (f := fun k => postriderlaw09_StampDates.j3 k s) (fun k => by simp only [postriderlaw09_StampDates.j2, Bool.false_eq_true, if_false]) (j3_f s hs)
  | true =>
    obtain ⟨b1, b2⟩ := hb rfl
    obtain ⟨l, D1⟩ := dt_of h0 h1
    obtain ⟨l2, D2⟩ := dt_of (t := t + 1) (by omega) (by omega)
    have n1 := D1.len
    have n2 := D2.len
    obtain ⟨y, m, d, H, y1, y2, e⟩ := D1.ex
    obtain ⟨z, m', d', H', z1, z2, e'⟩ := D2.ex
    have hq : (t + 1) / 86400 = t / 86400 := by omega
    rw [hq] at H' e'
    obtain ⟨rfl, rfl, rfl⟩ := H.uniq H'
    obtain ⟨F, hF⟩ : ∃ F, F = wdL (t / 86400) ++ ([44, 32] ++ (tw (d + 1) ++ ([32] ++ (moL m ++ ([32] ++ (Lib.itoa y ++ ([32] ++ (tw (t % 86400 / 3600) ++ ([58] ++ (tw (t % 86400 / 60 % 60) ++ [58])))))))))) := ⟨_, rfl⟩
    have f1 : l = F ++ (tw (t % 86400 % 60) ++ [32, 43, 48, 48, 48, 48]) := by
      rw [e, hF]; unfold dateL clockL; simp
    have f2 : l2 = F ++ (tw ((t + 1) % 86400 % 60) ++ [32, 43, 48, 48, 48, 48]) := by
      rw [e', hF]
      unfold dateL clockL
      rw [show (t + 1) % 86400 / 3600 = t % 86400 / 3600 by omega, show (t + 1) % 86400 / 60 % 60 = t % 86400 / 60 % 60 by omega]
      simp
    have g1 : l.length = F.length + 8 := by rw [f1]; simp [tw_len]
    have g2 : l2.length = F.length + 8 := by rw [f2]; simp [tw_len]
    have z1 : (B l).size = F.length + 8 := by rw [B_size, g1]
    have z2 : (B l2).size = F.length + 8 := by rw [B_size, g2]
    have c1 : ((B l).extract 0 F.length).toList = F := by rw [toL, L_ext, L_B, f1]; simp
    have c2 : ((B l2).extract 0 F.length).toList = F := by rw [toL, L_ext, L_B, f2]; simp
    have w8 : wrap64 (((F.length + 8 : Nat) : Int) - 8) = ((F.length : Nat) : Int) := by rw [wk (by omega) (by omega)]; omega
    have ew : wrap64 (t + 1) = t + 1 := wk (by omega) (by omega)
    refine Ev.eq (f := fun k => (stamp_Date.f k t).bind fun t182 => ((stamp_Date.f k (t + 1)).bind fun t183 => (if (t182.size : Int) < 8 then (some false) else (if (t182.size : Int) = (t183.size : Int) then (if 0 ≤ (wrap64 ((t182.size : Int) - 8)) then (if (wrap64 ((t182.size : Int) - 8)) ≤ (t182.size : Int) then (if 0 ≤ (wrap64 ((t183.size : Int) - 8)) then (if (wrap64 ((t183.size : Int) - 8)) ≤ (t183.size : Int) then (if (t182.extract 0 ((wrap64 ((t182.size : Int) - 8)) : Int).toNat).toList = (t183.extract 0 ((wrap64 ((t183.size : Int) - 8)) : Int).toNat).toList then (postriderlaw09_StampDates.j3 k s) else (some false)) else (none)) else (none)) else (none)) else (none)) else (some false))))) (fun k => by simp only [postriderlaw09_StampDates.j2, if_true, ew]) ?_
    refine Ev.bind2 D1.ev (Ev.bind2 D2.ev ?_)
    clear ew
    simp only [z1, z2, w8, Int.toNat_natCast, c1, c2, if_true, if_neg (show ¬ ((F.length + 8 : Nat) : Int) < 8 by clear w8; omega), if_pos (Int.natCast_nonneg F.length), if_pos (show ((F.length : Nat) : Int) ≤ ((F.length + 8 : Nat) : Int) by clear w8; omega)]
    exact j3_f s hs
theorem j1_f {t : Int} (h0 : 0 ≤ t) (h1 : t ≤ 1099511627776) (s : ByteArray) (hs : s.size ≤ 140737488351232) : Ev (fun k => postriderlaw09_StampDates.j1 k t s) true := by
  by_cases c : t % 60 < 59
  · refine Ev.eq (f := fun k => postriderlaw09_StampDates.j2 k t s (decide (t < 1099511627776))) (fun k => ?_) (j2_f h0 h1 s hs _ (fun hb => ⟨c, of_decide_eq_true hb⟩))
    simp only [postriderlaw09_StampDates.j1]
    rw [tm h0, if_pos c]
  · refine Ev.eq (f := fun k => postriderlaw09_StampDates.j2 k t s false) (fun k => ?_) (j2_f h0 h1 s hs false (fun hb => by cases hb))
    simp only [postriderlaw09_StampDates.j1]
    rw [tm h0, if_neg c]
def wkB : ByteArray := (⟨#[83, 117, 110, 77, 111, 110, 84, 117, 101, 87, 101, 100, 84, 104, 117, 70, 114, 105, 83, 97, 116, 83, 117, 110]⟩ : ByteArray)
theorem wk_ix (day : Int) : strings_Index.f wkB (B (wdL day)) = some (3 * ((day + 4) % 7)) := by
  have : ∀ i : Fin 7, Lib.index wkB.data.toList (wdT.getD i.val ByteArray.empty).data.toList = 3 * (i.val : Int) := by decide +kernel
  have h := this ⟨((day + 4) % 7).toNat, by omega⟩
  unfold strings_Index.f
  rw [if_pos (by decide)]
  congr 1
  simp only [show ((((day + 4) % 7).toNat : Nat) : Int) = (day + 4) % 7 by omega] at h
  exact h
theorem wk_cut (day : Int) : ((wkB.extract (3 * ((day + 4) % 7) + 3 : Int).toNat wkB.size).extract 0 3).toList = wdL (day + 1) ∧ 3 ≤ (wkB.extract (3 * ((day + 4) % 7) + 3 : Int).toNat wkB.size).size := by
  have : ∀ i : Fin 7, ((wkB.extract (3 * i.val + 3) wkB.size).extract 0 3).toList = (wdT.getD ((i.val + 1) % 7) ByteArray.empty).data.toList ∧ 3 ≤ (wkB.extract (3 * i.val + 3) wkB.size).size := by decide +kernel
  have h := this ⟨((day + 4) % 7).toNat, by omega⟩
  have e1 : (3 * ((day + 4) % 7) + 3 : Int).toNat = 3 * ((day + 4) % 7).toNat + 3 := by omega
  have e2 : ((day + 1 + 4) % 7).toNat = (((day + 4) % 7).toNat + 1) % 7 := by omega
  unfold wdL
  rw [e1, e2]
  exact h
theorem j0_f {t : Int} (h0 : 0 ≤ t) (h1 : t ≤ 1099511627776) (s : ByteArray) (hs : s.size ≤ 140737488351232) : Ev (fun k => postriderlaw09_StampDates.j0 k t s false) true := by
  have ew : wrap64 (t + 86400) = t + 86400 := wk (by omega) (by omega)
  by_cases c : t + 86400 ≤ 1099511627776
  · obtain ⟨l, D1⟩ := dt_of h0 h1
    obtain ⟨l2, D2⟩ := dt_of (t := t + 86400) (by omega) c
    have n1 := D1.len
    have n2 := D2.len
    obtain ⟨a, ha, b, hb⟩ := D1.parts
    obtain ⟨a2, ha2, b2, hb2⟩ := D2.parts
    rw [show (t + 86400) / 86400 = t / 86400 + 1 by omega] at ha2
    rw [show (t + 86400) % 86400 = t % 86400 by omega] at hb2
    obtain ⟨E, hE⟩ : ∃ E, E = clockL (t % 86400) ++ [32, 43, 48, 48, 48, 48] := ⟨_, rfl⟩
    have hEl : E.length = 14 := by rw [hE]; rfl
    rw [← hE] at hb hb2
    have g1 : l.length = b.length + 14 := by rw [hb, List.length_append, hEl]
    have g2 : l2.length = b2.length + 14 := by rw [hb2, List.length_append, hEl]
    have z1 : (B l).size = b.length + 14 := by rw [B_size, g1]
    have z2 : (B l2).size = b2.length + 14 := by rw [B_size, g2]
    have w14 : wrap64 (((b.length + 14 : Nat) : Int) - 14) = ((b.length : Nat) : Int) := by clear ew; rw [wk (by omega) (by omega)]; omega
    have w14' : wrap64 (((b2.length + 14 : Nat) : Int) - 14) = ((b2.length : Nat) : Int) := by clear ew w14; rw [wk (by omega) (by omega)]; omega
    have x1 : ((B l).extract b.length (b.length + 14)).toList = E := by rw [toL, L_ext, L_B, hb, List.drop_left, List.take_of_length_le (by omega)]
    have x2 : ((B l2).extract b2.length (b2.length + 14)).toList = E := by rw [toL, L_ext, L_B, hb2, List.drop_left, List.take_of_length_le (by omega)]
    have p1 : (B l).extract 0 3 = B (wdL (t / 86400)) := L_inj (by
      rw [L_ext, L_B, L_B, ha]
      have := wd_len (t / 86400)
      rw [List.drop_zero, show 3 - 0 = (wdL (t / 86400)).length by omega, List.take_left])
    have p2 : ((B l2).extract 0 3).toList = wdL (t / 86400 + 1) := by
      rw [toL, L_ext, L_B, ha2]
      have := wd_len (t / 86400 + 1)
      rw [List.drop_zero, show 3 - 0 = (wdL (t / 86400 + 1)).length by omega, List.take_left]
    have hix := wk_ix (t / 86400)
    obtain ⟨k1, k2⟩ := wk_cut (t / 86400)
    obtain ⟨q, hq⟩ : ∃ q, q = (t / 86400 + 4) % 7 := ⟨_, rfl⟩
    have hq0 : 0 ≤ q ∧ q < 7 := by clear ew w14 w14'; omega
    rw [← hq] at hix k1 k2
    have w3 : wrap64 (3 * q + 3) = 3 * q + 3 := wk (by clear ew w14 w14'; omega) (by clear ew w14 w14'; omega)
    refine Ev.eq (f := fun k => (stamp_Date.f k t).bind fun t179 => ((stamp_Date.f k (t + 86400)).bind fun t180 => (if (t179.size : Int) < 20 then (some false) else (if (t180.size : Int) < 20 then (some false) else (if 0 ≤ (wrap64 ((t179.size : Int) - 14)) then (if (wrap64 ((t179.size : Int) - 14)) ≤ (t179.size : Int) then (if 0 ≤ (wrap64 ((t180.size : Int) - 14)) then (if (wrap64 ((t180.size : Int) - 14)) ≤ (t180.size : Int) then (if (t179.extract ((wrap64 ((t179.size : Int) - 14)) : Int).toNat t179.size).toList = (t180.extract ((wrap64 ((t180.size : Int) - 14)) : Int).toNat t180.size).toList then (if 0 ≤ 3 then (if 3 ≤ (t179.size : Int) then ((strings_Index.f wkB (t179.extract 0 3)).bind fun t181 => (if 0 ≤ (wrap64 (t181 + 3)) then (if (wrap64 (t181 + 3)) ≤ 24 then (if 3 ≤ ((wkB.extract ((wrap64 (t181 + 3)) : Int).toNat wkB.size).size : Int) then (if 3 ≤ (t180.size : Int) then (if ((wkB.extract ((wrap64 (t181 + 3)) : Int).toNat wkB.size).extract 0 3).toList = (t180.extract 0 3).toList then (postriderlaw09_StampDates.j1 k t s) else (some false)) else (none)) else (none)) else (none)) else (none))) else (none)) else (none)) else (some false)) else (none)) else (none)) else (none)) else (none)))))) (fun k => ?_) ?_
    · simp only [postriderlaw09_StampDates.j0]
      rw [if_neg (by simp), ew, if_pos c]
      rfl
    · clear ew
      refine Ev.bind2 D1.ev (Ev.bind2 D2.ev ?_)
      simp only [z1, z2, w14, w14', Int.toNat_natCast, x1, x2, p1, p2, if_true, if_pos (show (0 : Nat) ≤ 3 by omega), if_neg (show ¬ ((b.length + 14 : Nat) : Int) < 20 by clear w14 w14' w3; omega), if_neg (show ¬ ((b2.length + 14 : Nat) : Int) < 20 by clear w14 w14' w3; omega), if_pos (Int.natCast_nonneg b.length), if_pos (Int.natCast_nonneg b2.length), if_pos (show ((b.length : Nat) : Int) ≤ ((b.length + 14 : Nat) : Int) by clear w14 w14' w3; omega), if_pos (show ((b2.length : Nat) : Int) ≤ ((b2.length + 14 : Nat) : Int) by clear w14 w14' w3; omega), if_pos (show (3 : Int) ≤ ((b.length + 14 : Nat) : Int) by clear w14 w14' w3; omega)]
      refine Ev.bindc hix ?_
      simp only [w3, if_pos (show 0 ≤ 3 * q + 3 by clear w14 w14' w3; omega), if_pos (show 3 * q + 3 ≤ 24 by clear w14 w14' w3; omega), k1, if_pos (show (3 : Int) ≤ ((wkB.extract (3 * q + 3 : Int).toNat wkB.size).size : Int) by clear w14 w14' w3; omega), if_pos (show (3 : Int) ≤ ((b2.length + 14 : Nat) : Int) by clear w14 w14' w3; omega), if_true]
      exact j1_f h0 h1 s hs
  · refine Ev.eq (f := fun k => postriderlaw09_StampDates.j1 k t s) (fun k => ?_) (j1_f h0 h1 s hs)
    simp only [postriderlaw09_StampDates.j0]
    rw [if_neg (by simp), ew, if_neg c]
theorem brought (a : Int) : 0 ≤ wrap64 (Int.tmod (IntKind.u64.wrap a) 1099511627777) ∧ wrap64 (Int.tmod (IntKind.u64.wrap a) 1099511627777) ≤ 1099511627776 := by
  obtain ⟨u, hu⟩ : ∃ u, IntKind.u64.wrap a = u := ⟨_, rfl⟩
  have hu0 : 0 ≤ u := by rw [← hu]; unfold IntKind.wrap; simp [IntKind.signed, IntKind.bits]; omega
  rw [hu, tm hu0, wk (x := u % 1099511627777) (by omega) (by omega)]
  omega
theorem StampDates : postriderlaw09_StampDates.Pure := by
  intro a0 a1 s _ _ hs
  obtain ⟨x0, x1⟩ := brought a0
  obtain ⟨y0, y1⟩ := brought a1
  apply Ev.to
  unfold postriderlaw09_StampDates.f
  generalize wrap64 (Int.tmod (IntKind.u64.wrap a0) 1099511627777) = t at x0 x1 ⊢
  generalize wrap64 (Int.tmod (IntKind.u64.wrap a1) 1099511627777) = u at y0 y1 ⊢
  obtain ⟨l, D1⟩ := dt_of x0 x1
  obtain ⟨l2, D2⟩ := dt_of y0 y1
  refine Ev.bind2 D1.ev (Ev.bind2 D1.rd ?_)
  simp only [if_true]
  refine Ev.bind2 D1.ev (Ev.bind2 D2.ev ?_)
  have e : (((B l).toList == (B l2).toList) != (t == u)) = false := by
    rw [toL, toL, L_B, L_B]
    by_cases h : t = u
    · subst h
      have : B l = B l2 := Ev.uniq D1.ev D2.ev
      have e2 : l = l2 := by rw [← L_B l, ← L_B l2, this]
      rw [e2]; simp
    · have hne : ¬ l = l2 := fun e2 => h (by
        have r2 := D2.rd
        rw [← e2] at r2
        have := Ev.uniq D1.rd r2
        exact (Prod.mk.inj this).1)
      rw [beq_eq_false_iff_ne.2 hne, beq_eq_false_iff_ne.2 h]; rfl
  rw [e]
  exact j0_f x0 x1 s hs
end Go.Proofs.YtoigafnaoaafeaaDoor.Pure
