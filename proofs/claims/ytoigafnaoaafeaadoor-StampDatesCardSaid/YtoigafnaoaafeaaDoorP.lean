/- Dates and stamps: what the functions tell, in plain words. -/
import Derived.Test.YtoigafnaoaafeaaDoorS
import Derived.Test.YtoigafnaoaafeaaDoorD
import Derived.Test.YtoigafnaoaafeaaDoorQx0
namespace Go.Proofs.YtoigafnaoaafeaaDoor.S
open Go.RowKit Go.Proofs.YtoigafnaoaafeaaDoor.Q Go.Proofs.YtoigafnaoaafeaaDoorW.PrintWords Go.Proofs.YtoigafnaoaafeaaDoorW.PrintLast Go.Proofs.YtoigafnaoaafeaaDoorW.PrintMore
set_option linter.unusedVariables false
set_option linter.unusedSimpArgs false
theorem td {x n : Int} (h : 0 ≤ x) : Int.tdiv x n = x / n := Int.tdiv_eq_ediv_of_nonneg h
theorem tm {x n : Int} (h : 0 ≤ x) : Int.tmod x n = x % n := Int.tmod_eq_emod_of_nonneg h
theorem clean_f (t : Int) : stamp_clean.f t = some (clT t) := by
  unfold stamp_clean.f clT mx mn
  congr 1
  (repeat' split) <;> omega
theorem ahead_f {y : Int} (h : 1 ≤ y) (h2 : y ≤ 1000000000000) : stamp_ahead.f y = some (ah y) := by
  unfold stamp_ahead.f
  rw [if_pos ⟨h, h2⟩]; rfl
theorem leapB_eq (y : Int) : leapB y = leapY y := rfl
theorem length_f {y : Int} {m : Nat} (h : 0 ≤ y) (hm : m < 12) : stamp_length.f y (m : Int) = some (ln (leapY y) m) := by
  unfold stamp_length.f ln
  rw [if_pos (by omega), Int.toNat_natCast, leapB_eq]
  by_cases h1 : m = 1
  · rw [if_pos h1, if_pos (by omega)]
  · rw [if_neg h1, if_neg (by omega)]
theorem ah_1970 : ah 1970 = 0 := by decide
theorem ah_era (q : Int) : ah (1970 + 400 * q) = 146097 * q := by unfold ah; omega
theorem ah_ge (n : Nat) : 365 * (n : Int) ≤ ah (1970 + n) := by have := ah_add 1970 n; rw [ah_1970] at this; omega
theorem year_of (day : Int) (h0 : 0 ≤ day) : ∀ n : Nat, day < ah (1970 + n) → ∃ y : Int, 1970 ≤ y ∧ y < 1970 + n ∧ ah y ≤ day ∧ day < ah (y + 1)
  | 0, h => by rw [show (1970 : Int) + ((0 : Nat) : Int) = 1970 by omega, ah_1970] at h; omega
  | n + 1, h => by
    by_cases c : day < ah (1970 + (n : Int))
    · obtain ⟨y, a, b, d⟩ := year_of day h0 n c
      exact ⟨y, a, by omega, d⟩
    · refine ⟨(1970 : Int) + (n : Int), by omega, by omega, by omega, ?_⟩
      rw [show (1970 : Int) + n + 1 = 1970 + ((n + 1 : Nat) : Int) by omega]; exact h
theorem month_of (b : Bool) (d : Int) (h0 : 0 ≤ d) : ∀ n : Nat, d < cum b n → ∃ m, m < n ∧ cum b m ≤ d ∧ d < cum b (m + 1)
  | 0, h => by simp [cum] at h; omega
  | n + 1, h => by
    by_cases c : d < cum b n
    · obtain ⟨m, a, e⟩ := month_of b d h0 n c
      exact ⟨m, by omega, e⟩
    · exact ⟨n, by omega, by omega, h⟩
theorem ymd_of {day : Int} (h0 : 0 ≤ day) (h1 : day ≤ 12725829) : ∃ (y : Int) (m : Nat) (d : Int), Ymd day y m d ∧ 1970 ≤ y ∧ y ≤ 40000 := by
  have hg := ah_ge 36000
  obtain ⟨y, a, b, c, d⟩ := year_of day h0 36000 (by omega)
  have hs := ah_step y
  obtain ⟨m, e, f, g⟩ := month_of (leapY y) (day - ah y) (by omega) 12 (by omega)
  refine ⟨y, m, day - ah y - cum (leapY y) m, ⟨e, by omega, ?_, by omega⟩, a, by omega⟩
  have : cum (leapY y) (m + 1) = cum (leapY y) m + ln (leapY y) m := rfl
  omega
theorem year_lt {day y z : Int} (h1 : ah y ≤ day) (h2 : day < ah (z + 1)) : y ≤ z := by
  rcases Int.lt_or_le z y with c | c
  · have := ah_le (show z + 1 ≤ y by omega); omega
  · exact c
/-! ### Two digits; sizes -/
theorem two_f {n : Int} (h0 : 0 ≤ n) (h1 : n < 100) : stamp_two.f n = some (B (tw n)) := by
  unfold stamp_two.f
  rw [if_pos ⟨h0, h1⟩]
  congr 1
  obtain ⟨k, rfl⟩ : ∃ k : Nat, n = (k : Int) := ⟨n.toNat, by omega⟩
  rw [Int.toNat_natCast]
  unfold twoB tw B
  rw [show ((48 : Int) + (k : Int) / 10).toNat = 48 + k / 10 by omega, show ((48 : Int) + (k : Int) % 10).toNat = 48 + k % 10 by omega]
theorem tw_len (n : Int) : (tw n).length = 2 := rfl
theorem rd_wd {day : Int} (h0 : 0 ≤ day) : rdOf ByteArray.empty wdT ((day + 4) % 7) = B (wdL day) := by
  unfold rdOf wdL
  exact (B_L _).symm
theorem rd_mo (m : Nat) : rdOf ByteArray.empty moT (m : Int) = B (moL m) := by
  unfold rdOf moL
  rw [Int.toNat_natCast]
  exact (B_L _).symm
theorem wd_len (day : Int) : (wdL day).length = 3 := by
  have : ∀ i : Fin 7, ((wdT.getD i.val ByteArray.empty).data.toList).length = 3 := by decide
  exact this ⟨((day + 4) % 7).toNat, by omega⟩
theorem mo_len {m : Nat} (h : m < 12) : (moL m).length = 3 := by
  have : ∀ i : Fin 12, ((moT.getD i.val ByteArray.empty).data.toList).length = 3 := by decide
  exact this ⟨m, h⟩
theorem itoa_len {y : Int} (h0 : 0 ≤ y) (h1 : y ≤ 1000000) : (Lib.itoa y).length ≤ 7 := by
  obtain ⟨n, rfl⟩ : ∃ n : Nat, y = (n : Int) := ⟨y.toNat, by omega⟩
  unfold Lib.itoa
  rw [if_neg (by omega), Int.toNat_natCast, Lib.decDigits_length]
  have h : ∀ n : Nat, n < 10 ^ 1 → Lib.nDigits n ≤ 1 := fun n h => by rw [Lib.nDigits, dif_pos (by omega)]; exact Nat.le_refl _
  have st : ∀ j : Nat, 1 ≤ j → (∀ n : Nat, n < 10 ^ j → Lib.nDigits n ≤ j) → ∀ n : Nat, n < 10 ^ (j + 1) → Lib.nDigits n ≤ j + 1 := fun j hj ih n hn => by
    rw [Lib.nDigits]
    split
    · omega
    · have := ih (n / 10) (by rw [Nat.div_lt_iff_lt_mul (by omega)]; rw [Nat.pow_succ] at hn; exact hn)
      omega
  exact st 6 (by omega) (st 5 (by omega) (st 4 (by omega) (st 3 (by omega) (st 2 (by omega) (st 1 (by omega) h))))) n (by omega)
theorem bsz (l : List UInt8) : (B l).size = l.length := B_size l
/-! ### The program's date -/
theorem date_l2 {day rest y : Int} {m : Nat} {d : Int} (H : Ymd day y m d) (hd : 0 ≤ day) (hy : 1970 ≤ y) (hy2 : y ≤ 40000) (hr : 0 ≤ rest) (hr2 : rest < 86400) : ∀ (n j : Nat), n + j = m →
    Ev (fun k => stamp_Date.l2 k rest (B (wdL day)) y (day - ah y - cum (leapY y) j) (j : Int)) (B (dateL day rest y m d)) := by
  have hm := H.m12
  have hyd := H.year
  intro n
  induction n with
  | zero =>
    intro j hj
    obtain rfl : j = m := by omega
    have h0 := H.d0
    have h1 := H.d1
    have h2 := H.eq
    have hl := ln_pos (leapY y) j hm
    have hl2 : ln (leapY y) j ≤ 31 := by
      have : ∀ b : Bool, ∀ m : Fin 12, ln b m.val ≤ 31 := by decide
      exact this _ ⟨j, hm⟩
    rw [show day - ah y - cum (leapY y) j = d by omega]
    refine Ev.eq (f := fun _ => some (B (dateL day rest y j d))) (fun k => ?_) (Ev.pure _)
    simp only [stamp_Date.l2]
    rw [length_f (by omega) hm, Option.bind_some, if_neg (by omega), td hr, wk (by omega) (by omega), two_f (by omega) (by omega), Option.bind_some, bsz, tw_len, if_pos (by omega),
      td hr, wk (by omega) (by omega), tm (by omega), two_f (by omega) (by omega), Option.bind_some]
    rw [show (⟨#[58]⟩ : ByteArray) = B [58] from rfl, B_app, bsz, bsz, if_pos (by simp [tw_len]), B_app, bsz, if_pos (by simp [tw_len]), tm hr, two_f (by omega) (by omega), Option.bind_some, B_app, bsz, bsz, if_pos (by simp [tw_len]), bsz, wd_len, if_pos (by omega), wk (by omega) (by omega), two_f (by omega) (by omega), Option.bind_some, if_pos (by omega), if_pos (by omega)]
    unfold strconv_FormatInt.f
    rw [if_pos (by omega), Option.bind_some, rd_mo]
    have hi := itoa_len (y := y) (by omega) (by omega)
    have hw := wd_len day
    have hmo := mo_len hm
    have hj : Lib.join (([B (wdL day) ++ (⟨#[44]⟩ : ByteArray), B (tw (d + 1)), B (moL j), ⟨(Lib.itoa y).toArray⟩, B (((tw (rest / 3600) ++ [58]) ++ tw (rest / 60 % 60)) ++ [58]) ++ B (tw (rest % 60)), (⟨#[43, 48, 48, 48, 48]⟩ : ByteArray)] : List ByteArray).map (·.data.toList)) (⟨#[32]⟩ : ByteArray).data.toList = dateL day rest y j d := by
      rw [show (⟨#[44]⟩ : ByteArray) = B [44] from rfl, B_app, B_app]
      simp only [List.map_cons, List.map_nil]
      rw [Lib.join_cons]
      unfold Lib.joinTail dateL clockL
      simp only [List.map_cons, List.map_nil, List.flatten_cons, List.flatten_nil, B, List.append_assoc, List.append_nil, List.cons_append, List.nil_append]
    have hlen : (dateL day rest y j d).length ≤ 60 := by
      unfold dateL clockL
      simp only [List.length_append, tw_len, List.length_cons, List.length_nil]
      omega
    unfold strings_Join.f
    dsimp only
    rw [hj, if_pos ⟨by simp, by omega⟩]
    rfl
  | succ n ih =>
    intro j hj
    have hc1 : cum (leapY y) (j + 1) = cum (leapY y) j + ln (leapY y) j := rfl
    have hc2 := cum_le (leapY y) (show j + 1 ≤ m by omega) (by omega)
    have hl := ln_pos (leapY y) j (by omega)
    have h2 := H.eq
    have h0 := H.d0
    have hcum := cum_le (leapY y) (show 0 ≤ j by omega) (by omega)
    have hcz : cum (leapY y) 0 = 0 := rfl
    have hcum2 := cum_le (leapY y) (show j ≤ 12 by omega) (by omega)
    have hyy := ah_step y
    have h12 := cum12 y
    refine Ev.eq (f := fun k => stamp_Date.l2 k rest (B (wdL day)) y (day - ah y - cum (leapY y) (j + 1)) ((j + 1 : Nat) : Int)) (fun k => ?_) (ih (j + 1) (by omega))
    simp only [stamp_Date.l2]
    rw [length_f (by omega) (by omega), Option.bind_some, if_pos (by omega), Option.bind_some, wk (by omega) (by omega), wk (by omega) (by omega), show day - ah y - cum (leapY y) j - ln (leapY y) j = day - ah y - cum (leapY y) (j + 1) by omega]
    rfl
theorem date_l1 {day rest y : Int} {m : Nat} {d : Int} (H : Ymd day y m d) (hd : 0 ≤ day) (hd2 : day ≤ 12725829) (hy : 1970 ≤ y) (hy2 : y ≤ 40000) (hr : 0 ≤ rest) (hr2 : rest < 86400) : ∀ (n : Nat) (z : Int), 1970 ≤ z → z + n = y →
    Ev (fun k => stamp_Date.l1 k day rest (B (wdL day)) z) (B (dateL day rest y m d)) := by
  have hyd := H.year
  intro n
  induction n with
  | zero =>
    intro z hz he
    obtain rfl : z = y := by omega
    have ha := ah_add 1970 (z - 1970).toNat
    rw [ah_1970, show (1970 : Int) + ((z - 1970).toNat : Int) = z by omega] at ha
    have hz := date_l2 (rest := rest) H hd hy hy2 hr hr2 m 0 (by omega)
    rw [show day - ah z - cum (leapY z) 0 = day - ah z from by simp [cum]] at hz
    refine Ev.eq (f := fun k => stamp_Date.l2 k rest (B (wdL day)) z (day - ah z) ((0 : Nat) : Int)) (fun k => ?_) hz
    simp only [stamp_Date.l1]
    rw [wk (by omega) (by omega), ahead_f (by omega) (by omega), Option.bind_some, if_neg (by omega), ahead_f (by omega) (by omega), Option.bind_some, wk (by omega) (by omega)]
    rfl
  | succ n ih =>
    intro z hz he
    refine Ev.eq (f := fun k => stamp_Date.l1 k day rest (B (wdL day)) (z + 1)) (fun k => ?_) (ih (z + 1) (by omega) (by omega))
    have := ah_le (show z + 1 ≤ y by omega)
    simp only [stamp_Date.l1]
    rw [wk (by omega) (by omega), ahead_f (by omega) (by omega), Option.bind_some, if_pos (by omega)]
theorem date_l0 {day rest y : Int} {m : Nat} {d : Int} (H : Ymd day y m d) (hd : 0 ≤ day) (hd2 : day ≤ 12725829) (hy : 1970 ≤ y) (hy2 : y ≤ 40000) (hr : 0 ≤ rest) (hr2 : rest < 86400) : ∀ (n : Nat) (z : Int), 1970 + n = z → z ≤ 100000 →
    Ev (fun k => stamp_Date.l0 k day rest (B (wdL day)) z) (B (dateL day rest y m d)) := by
  have hyd := H.year
  intro n
  induction n with
  | zero =>
    intro z hz _
    have e : ah z = 0 := by rw [← hz]; decide
    refine Ev.eq (f := fun k => stamp_Date.l1 k day rest (B (wdL day)) z) (fun k => ?_) (date_l1 H hd hd2 hy hy2 hr hr2 (y - z).toNat z (by omega) (by omega))
    simp only [stamp_Date.l0]
    rw [ahead_f (by omega) (by omega), Option.bind_some, if_neg (by omega)]
  | succ n ih =>
    intro z hz hz2
    by_cases c : ah z > day
    · refine Ev.eq (f := fun k => stamp_Date.l0 k day rest (B (wdL day)) (z - 1)) (fun k => ?_) (ih (z - 1) (by omega) (by omega))
      simp only [stamp_Date.l0]
      rw [ahead_f (by omega) (by omega), Option.bind_some, if_pos c, wk (by omega) (by omega)]
    · have hle := year_lt (show ah z ≤ day by omega) hyd.2
      refine Ev.eq (f := fun k => stamp_Date.l1 k day rest (B (wdL day)) z) (fun k => ?_) (date_l1 H hd hd2 hy hy2 hr hr2 (y - z).toNat z (by omega) (by omega))
      simp only [stamp_Date.l0]
      rw [ahead_f (by omega) (by omega), Option.bind_some, if_neg c]
theorem date_is (t : Int) : ∃ (y : Int) (m : Nat) (d : Int), Ymd (clT t / 86400) y m d ∧ 1970 ≤ y ∧ y ≤ 40000 := by
  have h := clT_range t
  exact ymd_of (by omega) (by omega)
theorem date_f {t y : Int} {m : Nat} {d : Int} (H : Ymd (clT t / 86400) y m d) (hy : 1970 ≤ y) (hy2 : y ≤ 40000) : Ev (fun k => stamp_Date.f k t) (B (dateL (clT t / 86400) (clT t % 86400) y m d)) := by
  have h := clT_range t
  unfold stamp_Date.f
  refine Ev.bindc (clean_f t) ?_
  obtain ⟨c, hc⟩ : ∃ c, clT t = c := ⟨_, rfl⟩
  rw [hc] at h H ⊢
  refine Ev.cong (f := fun k => stamp_Date.l0 k (c / 86400) (c % 86400) (B (wdL (c / 86400))) (1970 + (c / 86400 * 400) / 146097)) (fun k => ?_) (date_l0 H (rest := c % 86400) (by omega) (by omega) hy hy2 (by omega) (by omega) ((c / 86400 * 400) / 146097).toNat (1970 + (c / 86400 * 400) / 146097) (by omega) (by omega))
  rw [td (by omega), wk (x := c / 86400) (by omega) (by omega), wk (x := c / 86400 + 4) (by omega) (by omega), tm (by omega), if_pos (by omega), if_pos (by omega), tm (by omega), wk (x := c / 86400 * 400) (by omega) (by omega), td (by omega), wk (x := c / 86400 * 400 / 146097) (by omega) (by omega), wk (x := 1970 + c / 86400 * 400 / 146097) (by omega) (by omega), rd_wd (by omega)]
/-! ### Stamps and ages -/
def ltL : List UInt8 := [65, 66, 67, 68, 69, 70, 71, 72, 73, 74, 75, 76, 77, 78, 79, 80, 81, 82, 83, 84, 85, 86, 87, 88, 89, 90, 50, 51, 52, 53, 54, 55]
/-- A day's stamp. -/
def stL (n : Int) : List UInt8 := [ltL.getD (n / 32).toNat 0, ltL.getD (n % 32).toNat 0]
def dyT (d : Int) : Int := (if d < 0 then 0 else d) % 1024
theorem dyT_range (d : Int) : 0 ≤ dyT d ∧ dyT d < 1024 := by unfold dyT; omega
theorem mx_dy (d : Int) : (mx d 0) % 1024 = dyT d := by unfold mx dyT; rfl
theorem cut_lt {i : Int} (h0 : 0 ≤ i) (h1 : i < 32) : (⟨#[65, 66, 67, 68, 69, 70, 71, 72, 73, 74, 75, 76, 77, 78, 79, 80, 81, 82, 83, 84, 85, 86, 87, 88, 89, 90, 50, 51, 52, 53, 54, 55]⟩ : ByteArray).extract (i : Int).toNat (i + 1 : Int).toNat = B [ltL.getD i.toNat 0] := by
  have : ∀ j : Fin 32, (⟨#[65, 66, 67, 68, 69, 70, 71, 72, 73, 74, 75, 76, 77, 78, 79, 80, 81, 82, 83, 84, 85, 86, 87, 88, 89, 90, 50, 51, 52, 53, 54, 55]⟩ : ByteArray).extract j.val (j.val + 1) = B [ltL.getD j.val 0] := by decide +kernel
  have e := this ⟨i.toNat, by omega⟩
  rw [show (i + 1).toNat = i.toNat + 1 by omega]
  exact e
theorem text_f (d : Int) : stamp_Text.f d = some (B (stL (dyT d))) := by
  have h := dyT_range d
  unfold stamp_Text.f
  rw [mx_dy]
  rw [cut_lt (i := dyT d / 32) (by omega) (by omega), cut_lt (i := dyT d % 32) (by omega) (by omega), bsz, bsz]
  repeat rw [if_pos (by first | omega | simp)]
  rw [B_app]; rfl
def agT (s d : Int) : Int := (dyT d - dyT s + 1024) % 1024
theorem age_f (s d : Int) : stamp_Age.f s d = some (agT s d) := by
  unfold stamp_Age.f
  rw [mx_dy, mx_dy]; rfl
theorem wakes_f : Ev (fun k => postriderlaw09_wakes.f k) true := by
  unfold postriderlaw09_wakes.f
  refine Ev.bind2 (a := (1, 0)) (Ev.of (k := 20) (fun k => stamp_Parse.mono _ k) (by decide +kernel)) ?_
  obtain ⟨y, m, d, H, h1, h2⟩ := date_is 951782400
  have hd := date_f H h1 h2
  have hc : clT 951782400 = 951782400 := by decide
  rw [hc] at H hd
  have H2 : Ymd (951782400 / 86400) 2000 1 28 := ⟨by omega, by omega, by decide, by decide⟩
  obtain ⟨rfl, rfl, rfl⟩ := H.uniq H2
  refine Ev.cong (f := fun k => (stamp_Date.f k 951782400).bind fun t127 => (some (t127.toList == ([84, 117, 101, 44, 32, 50, 57, 32, 70, 101, 98, 32, 50, 48, 48, 48, 32, 48, 48, 58, 48, 48, 58, 48, 48, 32, 43, 48, 48, 48, 48] : List UInt8)))) (fun k => ?_) ?_
  · have t0 : (B (stL (dyT 0))).toList = [65, 65] := by decide +kernel
    have t1 : (B (stL (dyT 33))).toList = [66, 66] := by decide +kernel
    have t2 : (B (stL (dyT 1023))).toList = [55, 55] := by decide +kernel
    have t3 : agT 1 5 = 4 := by decide
    rw [text_f, text_f, text_f, age_f]
    simp only [Option.bind_some, t0, t1, t2, t3, if_true]
  · refine Ev.bind2 hd ?_
    refine Ev.cong (f := fun _ => some true) (fun k => ?_) (Ev.pure _)
    congr 1
    rw [toL, L_B, beq_iff_eq]
    decide +kernel
end Go.Proofs.YtoigafnaoaafeaaDoor.S
