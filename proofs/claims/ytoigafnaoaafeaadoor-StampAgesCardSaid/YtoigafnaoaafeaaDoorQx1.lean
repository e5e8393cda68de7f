-- Written by this session's own program (wip/tools: a patched run of the printer) out of the translation.
import Derived.Test.YtoigafnaoaafeaaDoorQx0
namespace Go.Proofs.YtoigafnaoaafeaaDoor.Q
open Go.RowKit Go.Proofs.YtoigafnaoaafeaaDoorW.PrintWords Go.Proofs.YtoigafnaoaafeaaDoorW.PrintLast Go.Proofs.YtoigafnaoaafeaaDoorW.PrintMore
attribute [local go_sem] max2_int min2_int max_two min_two max_three min_three max_four min_four   -- for this text's walks alone
set_option linter.unusedVariables false
set_option linter.unusedSimpArgs false

/-! ### stamp_clean: function 23 -/
def stamp_clean.f (a0 : Int) : Option (Int) := some (mx (mn a0 1099511627776) 0)
set_option maxHeartbeats 8000000 in
set_option maxRecDepth 100000 in
theorem stamp_clean.calls (a0 : Int) (r : Int) (w : World) (h : stamp_clean.f a0 = some r) :
    Calls Tryd.prog 23 #[.int .i64 a0] w fun e w' => e = .returned (.int .i64 r) ∧ Below w.heap.size w w' := by
  have HB := Aside0.mk (Below.refl w.heap.size w)
  have H : (some (mx (mn a0 1099511627776) 0)) = some r := h
  clear h
  obtain ⟨ji2, hji2⟩ : ∃ j_ : Int, (mn a0 1099511627776) = j_ := ⟨_, rfl⟩
  replace H : (some (mx (ji2) 0)) = some r := by first | (rw [hji2] at H; exact H) | (simp only [hji2] at H ⊢; exact H)
  (try (have hji2h : ji2 ≤ 1099511627776 := by (rw [← hji2]; unfold mn; (repeat' split) <;> omega)))
  (try (have hji2g : ji2 ≤ 64 := by omega))
  have hji2_ : (if 1099511627776 < a0 then 1099511627776 else a0) = ji2 := hji2
  obtain ⟨ji3, hji3⟩ : ∃ j_ : Int, (mx (ji2) 0) = j_ := ⟨_, rfl⟩
  replace H : (some ji3) = some r := by first | (rw [hji3] at H; exact H) | (simp only [hji3] at H ⊢; exact H)
  have hji3_ : (if (ji2) < 0 then 0 else (ji2)) = ji3 := hji3
  obtain rfl := Option.some.inj H
  go_enter Tryd.func23, Tryd.ntmps23
  go_wp2
  go_ret
  exact ⟨by first | rfl | (simp [errW_none, errW_some] <;> rfl) | (simp only [← hji2, ← hji3]; first | rfl | (simp [errW_none, errW_some] <;> rfl)) | (simp [*, errW_none, errW_some] <;> rfl), by repeat (first | (with_reducible first | exact HB.out | apply below_alloc | apply pw_below_drewN | apply below_drew1) | exact HB.out)⟩

/-! ### stamp_Day: function 8 -/
def stamp_Day.f (a0 : Int) : Option (Int) := (stamp_clean.f a0).bind fun t101 => (some (wrap64 (Int.tdiv t101 86400)))
set_option maxHeartbeats 8000000 in
set_option maxRecDepth 100000 in
theorem stamp_Day.calls (a0 : Int) (r : Int) (w : World) (h : stamp_Day.f a0 = some r) :
    Calls Tryd.prog 8 #[.int .i64 a0] w fun e w' => e = .returned (.int .i64 r) ∧ Below w.heap.size w w' := by
  have HB := Aside0.mk (Below.refl w.heap.size w)
  have H : ((stamp_clean.f a0).bind fun t101 => (some (wrap64 (Int.tdiv t101 86400)))) = some r := h
  clear h
  replace H := Option.bind_eq_some_iff.mp H
  obtain ⟨t101, A20, H⟩ := H
  replace H : (some (wrap64 (Int.tdiv t101 86400))) = some r := H
  have A2 := Aside0.mk A20
  clear A20
  obtain rfl := Option.some.inj H
  go_enter Tryd.func8, Tryd.ntmps8
  go_wp2_with (first | ((with_reducible refine gate_callee (f := 23) rfl ?_); refine goesL_ (some 4) rfl rfl Tryd.func23 (by kernel_rfl) rfl #[.int .i64 a0] rfl (by (try simp only [List.map_toArray, List.map_cons, List.map_nil]); first | done | rfl | (simp only [List.length_drop, List.length_take]; rfl)) ?_; (with_reducible refine (stamp_clean.calls a0 t101 _ A2.out).mono ?_); rintro e w3 ⟨rfl, hb⟩; refine ⟨_, rfl, ?_⟩; have n0_ := Aside0.mk (below_step (by repeat (first | (with_reducible first | exact HB.out | apply below_alloc | apply pw_below_drewN | apply below_drew1) | exact HB.out)) hb); clear HB; have HB := n0_; clear n0_; (try clear hb); (try clear hb2); (try clear hk); (try clear hi)))
  go_ret
  exact ⟨by first | rfl | (simp [errW_none, errW_some] <;> rfl) | (simp [*, errW_none, errW_some] <;> rfl), by repeat (first | (with_reducible first | exact HB.out | apply below_alloc | apply pw_below_drewN | apply below_drew1) | exact HB.out)⟩

/-! ### stamp_ahead: function 26 (by hand) -/
def stamp_ahead.f (a0 : Int) : Option Int := if 1 ≤ a0 ∧ a0 ≤ 1000000000000 then some (365 * (a0 - 1970) + ((a0 - 1) / 4 - (a0 - 1) / 100 + (a0 - 1) / 400) - 477) else none
theorem stamp_ahead.calls (a0 : Int) (r : Int) (w : World) (h : stamp_ahead.f a0 = some r) :
    Calls Tryd.prog 26 #[.int .i64 a0] w fun e w' => e = .returned (.int .i64 r) ∧ Drawn0 w w' := by
  unfold stamp_ahead.f at h
  split at h
  · rename_i hs
    obtain ⟨h0, h1⟩ := hs
    obtain rfl := Option.some.inj h
    have e1 : wrap64 (a0 - 1970) = a0 - 1970 := by unfold wrap64; omega
    have e2 : wrap64 (365 * (a0 - 1970)) = 365 * (a0 - 1970) := by unfold wrap64; omega
    have e3 : wrap64 (a0 - 1) = a0 - 1 := by unfold wrap64; omega
    have t1 : Int.tdiv (a0 - 1) 4 = (a0 - 1) / 4 := Int.tdiv_eq_ediv_of_nonneg (by omega)
    have t2 : Int.tdiv (a0 - 1) 100 = (a0 - 1) / 100 := Int.tdiv_eq_ediv_of_nonneg (by omega)
    have t3 : Int.tdiv (a0 - 1) 400 = (a0 - 1) / 400 := Int.tdiv_eq_ediv_of_nonneg (by omega)
    have e4 : wrap64 ((a0 - 1) / 4 - (a0 - 1) / 100) = (a0 - 1) / 4 - (a0 - 1) / 100 := by unfold wrap64; omega
    have e5 : wrap64 ((a0 - 1) / 4 - (a0 - 1) / 100 + (a0 - 1) / 400) = (a0 - 1) / 4 - (a0 - 1) / 100 + (a0 - 1) / 400 := by unfold wrap64; omega
    have e6 : wrap64 (365 * (a0 - 1970) + ((a0 - 1) / 4 - (a0 - 1) / 100 + (a0 - 1) / 400)) = 365 * (a0 - 1970) + ((a0 - 1) / 4 - (a0 - 1) / 100 + (a0 - 1) / 400) := by unfold wrap64; omega
    have e7 : wrap64 (365 * (a0 - 1970) + ((a0 - 1) / 4 - (a0 - 1) / 100 + (a0 - 1) / 400) - 477) = 365 * (a0 - 1970) + ((a0 - 1) / 4 - (a0 - 1) / 100 + (a0 - 1) / 400) - 477 := by unfold wrap64; omega
    go_enter Tryd.func26, Tryd.ntmps26
    go_wp2
    go_ret
    exact ⟨by first | rfl | (simp [*]; done), by repeat (first | exact Drawn0.refl _ | apply Drawn0.step)⟩
  · cases h


/-! ### stamp_length: function 27 (by hand) -/
def leapB (y : Int) : Bool := decide (y % 4 = 0) && (decide (y % 100 ≠ 0) || decide (y % 400 = 0))
def stamp_length.f (a0 a1 : Int) : Option Int := if 0 ≤ a0 ∧ 0 ≤ a1 ∧ a1 < 12 then some (if a1 = 1 then (if leapB a0 then 29 else 28) else lnT.getD a1.toNat 0) else none
theorem stamp_length.calls (a0 a1 : Int) (r : Int) (w : World) (hG : Glob w) (h : stamp_length.f a0 a1 = some r) :
    Calls Tryd.prog 27 #[.int .i64 a0, .int .i64 a1] w fun e w' => e = .returned (.int .i64 r) ∧ Drawn0 w w' := by
  unfold stamp_length.f at h
  split at h
  · rename_i hs
    obtain ⟨h0, h1, h2⟩ := hs
    obtain ⟨m, rfl⟩ : ∃ m : Nat, a1 = (m : Int) := ⟨a1.toNat, by omega⟩
    have hc := hG.ln m (by omega)
    have t1 : Int.tmod a0 4 = a0 % 4 := Int.tmod_eq_emod_of_nonneg h0
    have t2 : Int.tmod a0 100 = a0 % 100 := Int.tmod_eq_emod_of_nonneg h0
    have t3 : Int.tmod a0 400 = a0 % 400 := Int.tmod_eq_emod_of_nonneg h0
    obtain rfl := Option.some.inj h
    by_cases hm : m = 1
    · subst hm
      unfold leapB
      by_cases c1 : a0 % 4 = 0 <;> by_cases c2 : a0 % 100 = 0 <;> by_cases c3 : a0 % 400 = 0
      all_goals (
        go_enter Tryd.func27, Tryd.ntmps27
        go_wp2
        go_ret
        exact ⟨by simp [c1, c2, c3, lnT] <;> rfl, by repeat (first | exact Drawn0.refl _ | apply Drawn0.step)⟩)
    · have b1 : ((m : Int) == 1) = false := beq_false_of_ne (by omega)
      rw [if_neg (by omega), Int.toNat_natCast]
      obtain ⟨z, hz⟩ : ∃ z, lnT.getD m 0 = z := ⟨_, rfl⟩
      rw [hz] at hc ⊢
      go_enter Tryd.func27, Tryd.ntmps27
      go_wp2
      go_ret
      exact ⟨by first | rfl | (simp [*]; done), by repeat (first | exact Drawn0.refl _ | apply Drawn0.step)⟩
  · cases h


/-! ### stamp_two: function 28 (by hand) -/
def twoB (n : Nat) : ByteArray := ⟨#[(48 + n / 10).toUInt8, (48 + n % 10).toUInt8]⟩
theorem two_all : ∀ n : Fin 100, ((⟨(Lib.decDigits n.val).toArray⟩ : ByteArray).size = if n.val < 10 then 1 else 2) ∧ (⟨(Lib.repeatL [48] (if n.val < 10 then 1 else 0)).toArray⟩ : ByteArray) ++ ⟨(Lib.decDigits n.val).toArray⟩ = twoB n.val := by decide +kernel
def stamp_two.f (a0 : Int) : Option ByteArray := if 0 ≤ a0 ∧ a0 < 100 then some (twoB a0.toNat) else none
theorem stamp_two.calls (a0 : Int) (r : ByteArray) (w : World) (h : stamp_two.f a0 = some r) :
    Calls Tryd.prog 28 #[.int .i64 a0] w fun e w' => e = .returned (.string r) ∧ Below w.heap.size w w' := by
  unfold stamp_two.f at h
  split at h
  · rename_i hs
    obtain rfl := Option.some.inj h
    obtain ⟨n, rfl⟩ : ∃ n : Nat, a0 = (n : Int) := ⟨a0.toNat, by omega⟩
    rw [Int.toNat_natCast]
    have hn : n < 100 := by omega
    obtain ⟨h1, h2⟩ := two_all ⟨n, hn⟩
    have cF := fun W => Tryd.strconv_FormatInt_10_small n hn W
    simp only at h1 h2
    obtain ⟨p, hp⟩ : ∃ p : ByteArray, (⟨(Lib.decDigits n).toArray⟩ : ByteArray) = p := ⟨_, rfl⟩
    rw [hp] at h1 h2
    simp only [hp] at cF
    obtain ⟨c, hc⟩ : ∃ c : Nat, (if n < 10 then 1 else 0) = c := ⟨_, rfl⟩
    have hc2 : c ≤ 1 := by rw [← hc]; split <;> omega
    have hc3 : p.size + c = 2 := by rw [h1, ← hc]; split <;> rfl
    rw [hc] at h2
    have cR := fun W => Tryd.strings_Repeat ⟨#[48]⟩ c W (by omega) (by show 1 * c ≤ _; omega)
    obtain ⟨z, hz⟩ : ∃ z : ByteArray, (⟨(Lib.repeatL (⟨#[48]⟩ : ByteArray).data.toList c).toArray⟩ : ByteArray) = z := ⟨_, rfl⟩
    have h2' : z ++ p = twoB n := by rw [← hz]; exact h2
    simp only [hz] at cR
    have hzs : z.size ≤ 2 := by
      have e := congrArg ByteArray.size h2'
      rw [ByteArray.size_append] at e
      have : (twoB n).size = 2 := rfl
      omega
    have hw : wrap64 (2 - (p.size : Int)) = (c : Int) := by unfold wrap64; omega
    have hw2 : (2 : Int) - (p.size : Int) = (c : Int) := by omega
    have hsum : z.size + p.size ≤ 9223372036854775807 := by omega
    clear h1 h2 hp hz hc
    go_enter Tryd.func28, Tryd.ntmps28
    go_wp2_with (first | (go_at_call 30; go_must (refine (cF _).mono ?_; rintro e W1 ⟨rfl, rfl⟩)) | (go_at_call 48; go_must ((first | rw [hw] | rw [hw2] | skip); refine (cR _).mono ?_; rintro e W2 ⟨rfl, b2⟩)))
    go_ret
    exact ⟨rfl, b2⟩
  · cases h


/-! ### strings_Join: function 29 (by hand) -/
def strings_Join.f (l0 : List ByteArray) (a1 : ByteArray) : Option ByteArray := match l0 with
  | [] => none
  | x :: t => if (x :: t).length ≤ 140737488355328 ∧ (Lib.join ((x :: t).map (·.data.toList)) a1.data.toList).length ≤ 140737488355328 then some ⟨(Lib.join ((x :: t).map (·.data.toList)) a1.data.toList).toArray⟩ else none
theorem join_cells {w : World} {A : Option Addr} {l : List ByteArray} (h : Kd.C Kd.string w A l.length l) (hl : 0 < l.length) : ∃ bk o, A = some ⟨bk, o, none⟩ ∧ bk < w.heap.size ∧ ∀ (j : Nat) x, l[j]? = some x → w.cell? ⟨bk, o + j, none⟩ = some (.string x) := by
  obtain ⟨_, _, h3⟩ : ReadsOf Value.string ByteArray.empty w A l.length l := Kd.reads_of_C h
  obtain ⟨⟨bk, o, sp⟩, rfl, hc⟩ := h3 hl
  have hsp : sp = none := by
    have h0 := hc 0 hl
    have := World.block_lt_of_cell? w _ h0
    cases sp with
    | none => rfl
    | some q =>
      exfalso
      unfold Addr.add at h0
      simp [World.cell?] at h0
      revert h0
      split <;> simp
  subst hsp
  refine ⟨bk, o, rfl, World.block_lt_of_cell? w _ (hc 0 hl), ?_⟩
  intro j x hj
  have hj' : j < l.length := (List.getElem?_eq_some_iff.1 hj).1
  have := hc j hj'
  have e : (⟨bk, o, none⟩ : Addr).add j = ⟨bk, o + j, none⟩ := by unfold Addr.add; split <;> simp_all
  rw [e] at this
  rw [this, List.getD_eq_getElem?_getD, hj]; rfl
theorem strings_Join.calls (A0 : Option Addr) (c0 : Nat) (l0 : List ByteArray) (a1 : ByteArray) (r : ByteArray) (w : World) (hr0 : Kd.C Kd.string w A0 l0.length l0) (hc0 : l0.length ≤ c0) (h : strings_Join.f l0 a1 = some r) :
    Calls Tryd.prog 29 #[.slice A0 l0.length c0, .string a1] w fun e w' => e = .returned (.string r) ∧ Below w.heap.size w w' := by
  unfold strings_Join.f at h
  split at h
  · cases h
  · rename_i x t
    split at h
    · rename_i hb
      obtain rfl := Option.some.inj h
      obtain ⟨bk, o, rfl, hbk, hc⟩ := join_cells hr0 (by simp)
      exact Tryd.strings_Join bk o c0 (x :: t) a1 w hc hbk hb.1 hc0 hb.2
    · cases h


/-! ### strconv_FormatInt: function 30 (by hand) -/
def strconv_FormatInt.f (a0 a1 : Int) : Option ByteArray := if a1 = 10 ∧ -9223372036854775808 ≤ a0 ∧ a0 ≤ 9223372036854775807 then some ⟨(Lib.itoa a0).toArray⟩ else none
theorem strconv_FormatInt.calls (a0 a1 : Int) (r : ByteArray) (w : World) (hG : Glob w) (h : strconv_FormatInt.f a0 a1 = some r) :
    Calls Tryd.prog 30 #[.int .i64 a0, .int .i64 a1] w fun e w' => e = .returned (.string r) ∧ Below w.heap.size w w' := by
  unfold strconv_FormatInt.f at h
  split at h
  · rename_i hs
    obtain ⟨rfl, h0, h1⟩ := hs
    obtain rfl := Option.some.inj h
    refine (Tryd.strconv_FormatInt_10 a0 h0 h1 w hG.p10).mono ?_
    rintro e w' ⟨rfl, k, os, rfl⟩
    exact ⟨rfl, Lib.below_grow _ _ (Nat.le_refl _) _ _⟩
  · cases h


/-! ### stamp_Date: function 14 -/
mutual
def stamp_Date.l0 : Nat → Int → Int → ByteArray → Int → Option (ByteArray)
  | 0, _, _, _, _ => none
  | k + 1, x3, x4, x5, x6 => (stamp_ahead.f x6).bind fun t104 => (if t104 > x3 then (stamp_Date.l0 k x3 x4 x5 (wrap64 (x6 - 1))) else (stamp_Date.l1 k x3 x4 x5 x6))
def stamp_Date.l1 : Nat → Int → Int → ByteArray → Int → Option (ByteArray)
  | 0, _, _, _, _ => none
  | k + 1, x3, x4, x5, x6 => (stamp_ahead.f (wrap64 (x6 + 1))).bind fun t105 => (if t105 ≤ x3 then (stamp_Date.l1 k x3 x4 x5 (wrap64 (x6 + 1))) else ((stamp_ahead.f x6).bind fun t106 => (stamp_Date.l2 k x4 x5 x6 (wrap64 (x3 - t106)) 0)))
def stamp_Date.l2 : Nat → Int → ByteArray → Int → Int → Int → Option (ByteArray)
  | 0, _, _, _, _, _ => none
  | k + 1, x4, x5, x6, x7, x8 => (stamp_length.f x6 x8).bind fun t107 => (if x7 ≥ t107 then ((stamp_length.f x6 x8).bind fun t108 => (stamp_Date.l2 k x4 x5 x6 (wrap64 (x7 - t108)) (wrap64 (x8 + 1)))) else ((stamp_two.f (wrap64 (Int.tdiv x4 3600))).bind fun t109 => (if t109.size + 1 ≤ 9223372036854775807 then ((stamp_two.f (Int.tmod (wrap64 (Int.tdiv x4 60)) 60)).bind fun t110 => (if (t109 ++ (⟨#[58]⟩ : ByteArray)).size + t110.size ≤ 9223372036854775807 then (if ((t109 ++ (⟨#[58]⟩ : ByteArray)) ++ t110).size + 1 ≤ 9223372036854775807 then ((stamp_two.f (Int.tmod x4 60)).bind fun t111 => (if (((t109 ++ (⟨#[58]⟩ : ByteArray)) ++ t110) ++ (⟨#[58]⟩ : ByteArray)).size + t111.size ≤ 9223372036854775807 then (if x5.size + 1 ≤ 9223372036854775807 then ((stamp_two.f (wrap64 (x7 + 1))).bind fun t112 => (if 0 ≤ x8 then (if x8 < 12 then ((strconv_FormatInt.f x6 10).bind fun t114 => ((strings_Join.f (([x5 ++ (⟨#[44]⟩ : ByteArray), t112, rdOf ByteArray.empty moT x8, t114, (((t109 ++ (⟨#[58]⟩ : ByteArray)) ++ t110) ++ (⟨#[58]⟩ : ByteArray)) ++ t111, (⟨#[43, 48, 48, 48, 48]⟩ : ByteArray)] : List ByteArray)) (⟨#[32]⟩ : ByteArray)).bind fun t118 => (some t118))) else (none)) else (none))) else (none)) else (none))) else (none)) else (none))) else (none))))
end
def stamp_Date.f (k : Nat) (a0 : Int) : Option (ByteArray) := (stamp_clean.f a0).bind fun t102 => (if 0 ≤ (Int.tmod (wrap64 ((wrap64 (Int.tdiv t102 86400)) + 4)) 7) then (if (Int.tmod (wrap64 ((wrap64 (Int.tdiv t102 86400)) + 4)) 7) < 7 then (stamp_Date.l0 k (wrap64 (Int.tdiv t102 86400)) (Int.tmod t102 86400) (rdOf ByteArray.empty wdT (Int.tmod (wrap64 ((wrap64 (Int.tdiv t102 86400)) + 4)) 7)) (wrap64 (1970 + (wrap64 (Int.tdiv (wrap64 ((wrap64 (Int.tdiv t102 86400)) * 400)) 146097))))) else (none)) else (none))
theorem stamp_Date.mono_l : ∀ k, (∀ y0 y1 y2 y3, LeO (stamp_Date.l0 k y0 y1 y2 y3) (stamp_Date.l0 (k + 1) y0 y1 y2 y3)) ∧ (∀ y0 y1 y2 y3, LeO (stamp_Date.l1 k y0 y1 y2 y3) (stamp_Date.l1 (k + 1) y0 y1 y2 y3)) ∧ (∀ y0 y1 y2 y3 y4, LeO (stamp_Date.l2 k y0 y1 y2 y3 y4) (stamp_Date.l2 (k + 1) y0 y1 y2 y3 y4))
  | 0 => ⟨fun _ _ _ _ r h => by simp [stamp_Date.l0] at h, fun _ _ _ _ r h => by simp [stamp_Date.l1] at h, fun _ _ _ _ _ r h => by simp [stamp_Date.l2] at h⟩
  | k + 1 => by
    obtain ⟨ih0, ih1, ih2⟩ := stamp_Date.mono_l k
    refine ⟨?_, ?_, ?_⟩
    · intro y0 y1 y2 y3
      unfold stamp_Date.l0
      repeat' first
      | (with_reducible exact ih0 _ _ _ _)
      | (with_reducible exact ih1 _ _ _ _)
      | (with_reducible exact ih2 _ _ _ _ _)
      | (with_reducible exact LeO.refl _)
      | (with_reducible exact LeO.none _)
      | (with_reducible refine LeO.ite ?_ ?_)
      | (with_reducible refine LeO.bind ?_ (fun _ => ?_))
      | exact ih0 _ _ _ _
      | exact ih1 _ _ _ _
      | exact ih2 _ _ _ _ _
      | exact LeO.none _
      | refine LeO.ite ?_ ?_
      | refine LeO.bind ?_ (fun _ => ?_)
    · intro y0 y1 y2 y3
      unfold stamp_Date.l1
      repeat' first
      | (with_reducible exact ih0 _ _ _ _)
      | (with_reducible exact ih1 _ _ _ _)
      | (with_reducible exact ih2 _ _ _ _ _)
      | (with_reducible exact LeO.refl _)
      | (with_reducible exact LeO.none _)
      | (with_reducible refine LeO.ite ?_ ?_)
      | (with_reducible refine LeO.bind ?_ (fun _ => ?_))
      | exact ih0 _ _ _ _
      | exact ih1 _ _ _ _
      | exact ih2 _ _ _ _ _
      | exact LeO.none _
      | refine LeO.ite ?_ ?_
      | refine LeO.bind ?_ (fun _ => ?_)
    · intro y0 y1 y2 y3 y4
      unfold stamp_Date.l2
      repeat' first
      | (with_reducible exact ih0 _ _ _ _)
      | (with_reducible exact ih1 _ _ _ _)
      | (with_reducible exact ih2 _ _ _ _ _)
      | (with_reducible exact LeO.refl _)
      | (with_reducible exact LeO.none _)
      | (with_reducible refine LeO.ite ?_ ?_)
      | (with_reducible refine LeO.bind ?_ (fun _ => ?_))
      | exact ih0 _ _ _ _
      | exact ih1 _ _ _ _
      | exact ih2 _ _ _ _ _
      | exact LeO.none _
      | refine LeO.ite ?_ ?_
      | refine LeO.bind ?_ (fun _ => ?_)
theorem stamp_Date.mono : ∀ a0 k, LeO (stamp_Date.f k a0) (stamp_Date.f (k + 1) a0) := by
  intro a0 k
  obtain ⟨ih0, ih1, ih2⟩ := stamp_Date.mono_l k
  unfold stamp_Date.f
  repeat' first
      | (with_reducible exact ih0 _ _ _ _)
      | (with_reducible exact ih1 _ _ _ _)
      | (with_reducible exact ih2 _ _ _ _ _)
      | (with_reducible exact LeO.refl _)
      | (with_reducible exact LeO.none _)
      | (with_reducible refine LeO.ite ?_ ?_)
      | (with_reducible refine LeO.bind ?_ (fun _ => ?_))
      | exact ih0 _ _ _ _
      | exact ih1 _ _ _ _
      | exact ih2 _ _ _ _ _
      | exact LeO.none _
      | refine LeO.ite ?_ ?_
      | refine LeO.bind ?_ (fun _ => ?_)
def stamp_Date.T14 : Bool × List (List Nat × List Nat) := (true, [([], []), ([0], [0]), ([], []), ([2], [2]), ([3], [3]), ([], []), ([5], [5]), ([6], [6]), ([], []), ([8, 4], [8]), ([], []), ([1, 4, 7, 9, 10], [1, 4, 7, 9, 10]), ([11, 9], [11]), ([12, 12, 0, 1, 2, 3, 4, 5, 6, 7, 8, 9, 10, 11, 12], [12])])
def stamp_Date.B14 : List Nat := [0, 1, 0, 4, 12, 0, 32, 96, 0, 284, 0, 2047, 4095, 8191]
theorem stamp_Date.tab14 : rtab .any (opsOf Tryd.f14 14) = stamp_Date.T14 := by kernel_rfl
theorem stamp_Date.bits14 : waitsOk stamp_Date.T14.2 stamp_Date.B14 = true := by kernel_rfl
set_option maxHeartbeats 8000000 in
set_option maxRecDepth 100000 in
theorem stamp_Date.calls (k : Nat) (a0 : Int) (r : ByteArray) (w : World) (hG : Glob w) (h : stamp_Date.f k a0 = some r) :
    Calls Tryd.prog 14 #[.int .i64 a0] w fun e w' => e = .returned (.string r) ∧ Below w.heap.size w w' := by
  have HB := Aside0.mk (Below.refl w.heap.size w)
  have HG := Aside0.mk hG
  have HRG0 := Aside0.mk hG.c0
  have HRG1 := Aside0.mk hG.c1
  clear hG
  have H : ((stamp_clean.f a0).bind fun t102 => (if 0 ≤ (Int.tmod (wrap64 ((wrap64 (Int.tdiv t102 86400)) + 4)) 7) then (if (Int.tmod (wrap64 ((wrap64 (Int.tdiv t102 86400)) + 4)) 7) < 7 then (stamp_Date.l0 k (wrap64 (Int.tdiv t102 86400)) (Int.tmod t102 86400) (rdOf ByteArray.empty wdT (Int.tmod (wrap64 ((wrap64 (Int.tdiv t102 86400)) + 4)) 7)) (wrap64 (1970 + (wrap64 (Int.tdiv (wrap64 ((wrap64 (Int.tdiv t102 86400)) * 400)) 146097))))) else (none)) else (none))) = some r := h
  clear h
  replace H := Option.bind_eq_some_iff.mp H
  obtain ⟨t102, A20, H⟩ := H
  replace H : (if 0 ≤ (Int.tmod (wrap64 ((wrap64 (Int.tdiv t102 86400)) + 4)) 7) then (if (Int.tmod (wrap64 ((wrap64 (Int.tdiv t102 86400)) + 4)) 7) < 7 then (stamp_Date.l0 k (wrap64 (Int.tdiv t102 86400)) (Int.tmod t102 86400) (rdOf ByteArray.empty wdT (Int.tmod (wrap64 ((wrap64 (Int.tdiv t102 86400)) + 4)) 7)) (wrap64 (1970 + (wrap64 (Int.tdiv (wrap64 ((wrap64 (Int.tdiv t102 86400)) * 400)) 146097))))) else (none)) else (none)) = some r := H
  have A2 := Aside0.mk A20
  clear A20
  obtain ⟨ji3, hji3⟩ : ∃ j_ : Int, (Int.tmod (wrap64 ((wrap64 (Int.tdiv t102 86400)) + 4)) 7) = j_ := ⟨_, rfl⟩
  replace H : (if 0 ≤ (ji3) then (if (ji3) < 7 then (stamp_Date.l0 k (wrap64 (Int.tdiv t102 86400)) (Int.tmod t102 86400) (rdOf ByteArray.empty wdT (ji3)) (wrap64 (1970 + (wrap64 (Int.tdiv (wrap64 ((wrap64 (Int.tdiv t102 86400)) * 400)) 146097))))) else (none)) else (none)) = some r := by first | (rw [hji3] at H; exact H) | (simp only [hji3] at H ⊢; exact H)
  (try rw [hji3] at A2)
  by_cases c4 : 0 ≤ (ji3)
  · rw [if_pos c4] at H
    have c4b0 : decide (0 ≤ (ji3)) = true := decide_eq_true c4
    clear c4
    by_cases c5 : (ji3) < 7
    · rw [if_pos c5] at H
      have c5b0 : decide ((ji3) < 7) = true := decide_eq_true c5
      clear c5
      have H' := Aside0.mk H
      clear H
      obtain ⟨rs_, hrs_⟩ : ∃ j_ : Int, (Int.tmod t102 86400) = j_ := ⟨_, rfl⟩
      rw [hrs_] at H'
      go_enter Tryd.func14, Tryd.ntmps14
      go_wp2_with (first | ((with_reducible refine gate_callee (f := 23) rfl ?_); refine goesL_ (some 11) rfl rfl Tryd.func23 (by kernel_rfl) rfl #[.int .i64 a0] rfl (by (try simp only [List.map_toArray, List.map_cons, List.map_nil]); first | done | rfl | (simp only [List.length_drop, List.length_take]; rfl)) ?_; (with_reducible refine (stamp_clean.calls a0 t102 _ A2.out).mono ?_); rintro e w6 ⟨rfl, hb⟩; refine ⟨_, rfl, ?_⟩; have n0_ := Aside0.mk (below_step (by repeat (first | (with_reducible first | exact HB.out | apply below_alloc | apply pw_below_drewN | apply below_drew1) | exact HB.out)) hb); clear HB; have HB := n0_; clear n0_; (try clear hb); (try clear hb2); (try clear hk); (try clear hi); have p103 : 0 ≤ ((ji3) : Int) := of_decide_eq_true (by first | (with_reducible assumption) | assumption); have q103 : (ji3) < (wdT.length : Int) := of_decide_eq_true (by first | (with_reducible assumption) | assumption); have ql103 : (((ji3) : Int) < (7 : Int)) = True := eq_true (of_decide_eq_true (by first | (with_reducible assumption) | assumption)); obtain ⟨ad103, e103, hx103_0⟩ := Kd.at_string HRG0.out (ji3) p103 q103; obtain rfl : (⟨0, 0, none⟩ : Addr) = ad103 := (by injection e103); (first | simp only [add_plain] at hx103_0 | simp only [add_at] at hx103_0 | simp only [Addr.add, Nat.zero_add] at hx103_0 | skip); replace hx103_0 := (HB.out.cell (World.block_lt_of_cell? w _ hx103_0)).trans hx103_0; replace p103 := eq_true p103; replace q103 := eq_true q103))
      go_loopg [6] k (fun kq v6 w' => ∃ (x6_1 : Int), v6 = .int .i64 x6_1 ∧ Aside0 (stamp_Date.l0 kq (wrap64 (Int.tdiv t102 86400)) rs_ (rdOf ByteArray.empty wdT (ji3)) x6_1 = some r) ∧ Aside0 (kq ≤ k) ∧ Aside0 (Below w.heap.size w w'))
      case atStart => exact ⟨(wrap64 (1970 + (wrap64 (Int.tdiv (wrap64 ((wrap64 (Int.tdiv t102 86400)) * 400)) 146097)))), (by first | rfl | (simp; done) | (simp [*]; done)), H', ⟨Nat.le_refl _⟩, ⟨by repeat (first | (with_reducible first | exact HB.out | apply below_alloc | apply pw_below_drewN | apply below_drew1) | exact HB.out)⟩⟩
      case round =>
        clear H'
        try clear c1
        try clear p1
        try clear q1
        try clear hx1
        try clear c2
        try clear p2
        try clear c4
        try clear c4b0
        try clear c5
        try clear c5b0
        try clear p6
        try clear hx103_0
        try clear p103
        try clear q103
        obtain ⟨x6_1, rfl, HA, HK1, HB⟩ := hrel
        cases gk with
        | zero => exact absurd HA.out (by simp [stamp_Date.l0])
        | succ k1 =>
          have H := HA.out
          clear HA
          simp only [stamp_Date.l0] at H
          replace H := Option.bind_eq_some_iff.mp H
          obtain ⟨t104, A70, H⟩ := H
          replace H : (if t104 > (wrap64 (Int.tdiv t102 86400)) then (stamp_Date.l0 k1 (wrap64 (Int.tdiv t102 86400)) rs_ (rdOf ByteArray.empty wdT (ji3)) (wrap64 (x6_1 - 1))) else (stamp_Date.l1 k1 (wrap64 (Int.tdiv t102 86400)) rs_ (rdOf ByteArray.empty wdT (ji3)) x6_1)) = some r := H
          have A7 := Aside0.mk A70
          clear A70
          by_cases c8 : t104 > (wrap64 (Int.tdiv t102 86400))
          · rw [if_pos c8] at H
            have c8b0 : decide ((wrap64 (Int.tdiv t102 86400)) < t104) = true := decide_eq_true c8
            clear c8
            have H' := Aside0.mk H
            clear H
            go_wp2_with (first | ((with_reducible refine gate_callee (f := 26) rfl ?_); refine goesL_ (some 26) rfl rfl Tryd.func26 (by kernel_rfl) rfl #[.int .i64 x6_1] rfl (by (try simp only [List.map_toArray, List.map_cons, List.map_nil]); first | done | rfl | (simp only [List.length_drop, List.length_take]; rfl)) ?_; (with_reducible refine (stamp_ahead.calls x6_1 t104 _ A7.out).mono ?_); rintro e w' ⟨rfl, ⟨nd, rfl⟩⟩; refine ⟨_, rfl, ?_⟩))
            go_roundg k1
            case measure => have := HK1.out; omega
            case rel => exact ⟨(wrap64 (x6_1 - 1)), (by first | rfl | (simp; done) | (simp [*]; done)), H', ⟨by have := HK1.out; omega⟩, ⟨by repeat (first | (with_reducible first | exact HB.out | apply below_alloc | apply pw_below_drewN | apply below_drew1) | exact HB.out)⟩⟩
          · rw [if_neg c8] at H
            have c8b0 : decide ((wrap64 (Int.tdiv t102 86400)) < t104) = false := decide_eq_false c8
            clear c8
            have H' := Aside0.mk H
            clear H
            go_wp2_with (first | ((with_reducible refine gate_callee (f := 26) rfl ?_); refine goesL_ (some 26) rfl rfl Tryd.func26 (by kernel_rfl) rfl #[.int .i64 x6_1] rfl (by (try simp only [List.map_toArray, List.map_cons, List.map_nil]); first | done | rfl | (simp only [List.length_drop, List.length_take]; rfl)) ?_; (with_reducible refine (stamp_ahead.calls x6_1 t104 _ A7.out).mono ?_); rintro e w' ⟨rfl, ⟨nd, rfl⟩⟩; refine ⟨_, rfl, ?_⟩))
            go_loopg [6] k1 (fun kq v6 w' => ∃ (x6_2 : Int), v6 = .int .i64 x6_2 ∧ Aside0 (stamp_Date.l1 kq (wrap64 (Int.tdiv t102 86400)) rs_ (rdOf ByteArray.empty wdT (ji3)) x6_2 = some r) ∧ Aside0 (kq ≤ k1) ∧ Aside0 (Below w.heap.size w w'))
            case atStart => exact ⟨(x6_1), (by first | rfl | (simp; done) | (simp [*]; done)), H', ⟨Nat.le_refl _⟩, ⟨by repeat (first | (with_reducible first | exact HB.out | apply below_alloc | apply pw_below_drewN | apply below_drew1) | exact HB.out)⟩⟩
            case round =>
              clear H'
              try clear c1
              try clear p1
              try clear q1
              try clear hx1
              try clear c2
              try clear p2
              try clear c4
              try clear c4b0
              try clear c5
              try clear c5b0
              try clear p6
              try clear c8
              try clear c8b0
              try clear hx103_0
              try clear p1
              try clear p103
              try clear p2
              try clear p6
              try clear q1
              try clear q103
              obtain ⟨x6_2, rfl, HA, HK2, HB⟩ := hrel
              cases gk with
              | zero => exact absurd HA.out (by simp [stamp_Date.l1])
              | succ k2 =>
                have H := HA.out
                clear HA
                simp only [stamp_Date.l1] at H
                replace H := Option.bind_eq_some_iff.mp H
                obtain ⟨t105, A90, H⟩ := H
                replace H : (if t105 ≤ (wrap64 (Int.tdiv t102 86400)) then (stamp_Date.l1 k2 (wrap64 (Int.tdiv t102 86400)) rs_ (rdOf ByteArray.empty wdT (ji3)) (wrap64 (x6_2 + 1))) else ((stamp_ahead.f x6_2).bind fun t106 => (stamp_Date.l2 k2 rs_ (rdOf ByteArray.empty wdT (ji3)) x6_2 (wrap64 ((wrap64 (Int.tdiv t102 86400)) - t106)) 0))) = some r := H
                have A9 := Aside0.mk A90
                clear A90
                by_cases c10 : t105 ≤ (wrap64 (Int.tdiv t102 86400))
                · rw [if_pos c10] at H
                  have c10b0 : decide (t105 ≤ (wrap64 (Int.tdiv t102 86400))) = true := decide_eq_true c10
                  clear c10
                  have H' := Aside0.mk H
                  clear H
                  go_wp2_with (first | ((with_reducible refine gate_callee (f := 26) rfl ?_); refine goesL_ (some 33) rfl rfl Tryd.func26 (by kernel_rfl) rfl #[.int .i64 (wrap64 (x6_2 + 1))] rfl (by (try simp only [List.map_toArray, List.map_cons, List.map_nil]); first | done | rfl | (simp only [List.length_drop, List.length_take]; rfl)) ?_; (with_reducible refine (stamp_ahead.calls (wrap64 (x6_2 + 1)) t105 _ A9.out).mono ?_); rintro e w' ⟨rfl, ⟨nd, rfl⟩⟩; refine ⟨_, rfl, ?_⟩))
                  go_roundg k2
                  case measure => have := HK1.out; have := HK2.out; omega
                  case rel => exact ⟨(wrap64 (x6_2 + 1)), (by first | rfl | (simp; done) | (simp [*]; done)), H', ⟨by have := HK1.out; have := HK2.out; omega⟩, ⟨by repeat (first | (with_reducible first | exact HB.out | apply below_alloc | apply pw_below_drewN | apply below_drew1) | exact HB.out)⟩⟩
                · rw [if_neg c10] at H
                  have c10b0 : decide (t105 ≤ (wrap64 (Int.tdiv t102 86400))) = false := decide_eq_false c10
                  clear c10
                  replace H := Option.bind_eq_some_iff.mp H
                  obtain ⟨t106, A110, H⟩ := H
                  replace H : (stamp_Date.l2 k2 rs_ (rdOf ByteArray.empty wdT (ji3)) x6_2 (wrap64 ((wrap64 (Int.tdiv t102 86400)) - t106)) 0) = some r := H
                  have A11 := Aside0.mk A110
                  clear A110
                  have H' := Aside0.mk H
                  clear H
                  go_wp2_with (first | ((with_reducible refine gate_callee (f := 26) rfl ?_); refine goesL_ (some 33) rfl rfl Tryd.func26 (by kernel_rfl) rfl #[.int .i64 (wrap64 (x6_2 + 1))] rfl (by (try simp only [List.map_toArray, List.map_cons, List.map_nil]); first | done | rfl | (simp only [List.length_drop, List.length_take]; rfl)) ?_; (with_reducible refine (stamp_ahead.calls (wrap64 (x6_2 + 1)) t105 _ A9.out).mono ?_); rintro e w' ⟨rfl, ⟨nd, rfl⟩⟩; refine ⟨_, rfl, ?_⟩) | ((with_reducible refine gate_callee (f := 26) rfl ?_); refine goesL_ (some 40) rfl rfl Tryd.func26 (by kernel_rfl) rfl #[.int .i64 x6_2] rfl (by (try simp only [List.map_toArray, List.map_cons, List.map_nil]); first | done | rfl | (simp only [List.length_drop, List.length_take]; rfl)) ?_; (with_reducible refine (stamp_ahead.calls x6_2 t106 _ A11.out).mono ?_); rintro e w' ⟨rfl, ⟨nd, rfl⟩⟩; refine ⟨_, rfl, ?_⟩))
                  go_loopg [7, 8] k2 (fun kq v7 v8 w' => ∃ (x7_3 : Int) (x8_3 : Int), v7 = .int .i64 x7_3 ∧ v8 = .int .i64 x8_3 ∧ Aside0 (stamp_Date.l2 kq rs_ (rdOf ByteArray.empty wdT (ji3)) x6_2 x7_3 x8_3 = some r) ∧ Aside0 (kq ≤ k2) ∧ Aside0 (Below w.heap.size w w'))
                  case atStart => exact ⟨(wrap64 ((wrap64 (Int.tdiv t102 86400)) - t106)), (0), (by first | rfl | (simp; done) | (simp [*]; done)), (by first | rfl | (simp; done) | (simp [*]; done)), H', ⟨Nat.le_refl _⟩, ⟨by repeat (first | (with_reducible first | exact HB.out | apply below_alloc | apply pw_below_drewN | apply below_drew1) | exact HB.out)⟩⟩
                  case round =>
                    clear H'
                    try clear c1
                    try clear p1
                    try clear q1
                    try clear hx1
                    try clear c2
                    try clear p2
                    try clear c4
                    try clear c4b0
                    try clear c5
                    try clear c5b0
                    try clear p6
                    try clear c8
                    try clear c8b0
                    try clear c10
                    try clear c10b0
                    try clear p10
                    try clear q10
                    try clear hx10
                    try clear hx103_0
                    try clear p1
                    try clear p103
                    try clear p2
                    try clear p6
                    try clear q1
                    try clear q103
                    obtain ⟨x7_3, x8_3, rfl, rfl, HA, HK3, HB⟩ := hrel
                    cases gk with
                    | zero => exact absurd HA.out (by simp [stamp_Date.l2])
                    | succ k3 =>
                      have H := HA.out
                      clear HA
                      simp only [stamp_Date.l2] at H
                      replace H := Option.bind_eq_some_iff.mp H
                      obtain ⟨t107, A120, H⟩ := H
                      replace H : (if x7_3 ≥ t107 then ((stamp_length.f x6_2 x8_3).bind fun t108 => (stamp_Date.l2 k3 rs_ (rdOf ByteArray.empty wdT (ji3)) x6_2 (wrap64 (x7_3 - t108)) (wrap64 (x8_3 + 1)))) else ((stamp_two.f (wrap64 (Int.tdiv rs_ 3600))).bind fun t109 => (if t109.size + 1 ≤ 9223372036854775807 then ((stamp_two.f (Int.tmod (wrap64 (Int.tdiv rs_ 60)) 60)).bind fun t110 => (if (t109 ++ (⟨#[58]⟩ : ByteArray)).size + t110.size ≤ 9223372036854775807 then (if ((t109 ++ (⟨#[58]⟩ : ByteArray)) ++ t110).size + 1 ≤ 9223372036854775807 then ((stamp_two.f (Int.tmod rs_ 60)).bind fun t111 => (if (((t109 ++ (⟨#[58]⟩ : ByteArray)) ++ t110) ++ (⟨#[58]⟩ : ByteArray)).size + t111.size ≤ 9223372036854775807 then (if (rdOf ByteArray.empty wdT (ji3)).size + 1 ≤ 9223372036854775807 then ((stamp_two.f (wrap64 (x7_3 + 1))).bind fun t112 => (if 0 ≤ x8_3 then (if x8_3 < 12 then ((strconv_FormatInt.f x6_2 10).bind fun t114 => ((strings_Join.f (([(rdOf ByteArray.empty wdT (ji3)) ++ (⟨#[44]⟩ : ByteArray), t112, rdOf ByteArray.empty moT x8_3, t114, (((t109 ++ (⟨#[58]⟩ : ByteArray)) ++ t110) ++ (⟨#[58]⟩ : ByteArray)) ++ t111, (⟨#[43, 48, 48, 48, 48]⟩ : ByteArray)] : List ByteArray)) (⟨#[32]⟩ : ByteArray)).bind fun t118 => (some t118))) else (none)) else (none))) else (none)) else (none))) else (none)) else (none))) else (none)))) = some r := H
                      have A12 := Aside0.mk A120
                      clear A120
                      by_cases c13 : x7_3 ≥ t107
                      · rw [if_pos c13] at H
                        have c13b0 : decide (t107 ≤ x7_3) = true := decide_eq_true c13
                        clear c13
                        replace H := Option.bind_eq_some_iff.mp H
                        obtain ⟨t108, A140, H⟩ := H
                        replace H : (stamp_Date.l2 k3 rs_ (rdOf ByteArray.empty wdT (ji3)) x6_2 (wrap64 (x7_3 - t108)) (wrap64 (x8_3 + 1))) = some r := H
                        have A14 := Aside0.mk A140
                        clear A140
                        have E_ : t107 = t108 := Option.some.inj (A12.out.symm.trans A14.out)
                        subst E_
                        have H' := Aside0.mk H
                        clear H
                        go_wp2_with (first | ((with_reducible refine gate_callee (f := 27) rfl ?_); refine goesL_ (some 45) rfl rfl Tryd.func27 (by kernel_rfl) rfl #[.int .i64 x6_2, .int .i64 x8_3] rfl (by (try simp only [List.map_toArray, List.map_cons, List.map_nil]); first | done | rfl | (simp only [List.length_drop, List.length_take]; rfl)) ?_; (with_reducible refine (stamp_length.calls x6_2 x8_3 t107 _ ?side1 A12.out).mono ?_); (case side1 => exact Glob.below HG.out (by repeat (first | (with_reducible first | exact HB.out | apply below_alloc | apply pw_below_drewN | apply below_drew1) | exact HB.out))); rintro e w' ⟨rfl, ⟨nd, rfl⟩⟩; refine ⟨_, rfl, ?_⟩) | ((with_reducible refine gate_callee (f := 27) rfl ?_); refine goesL_ (some 50) rfl rfl Tryd.func27 (by kernel_rfl) rfl #[.int .i64 x6_2, .int .i64 x8_3] rfl (by (try simp only [List.map_toArray, List.map_cons, List.map_nil]); first | done | rfl | (simp only [List.length_drop, List.length_take]; rfl)) ?_; (with_reducible refine (stamp_length.calls x6_2 x8_3 t107 _ ?side1 A14.out).mono ?_); (case side1 => exact Glob.below HG.out (by repeat (first | (with_reducible first | exact HB.out | apply below_alloc | apply pw_below_drewN | apply below_drew1) | exact HB.out))); rintro e w' ⟨rfl, ⟨nd, rfl⟩⟩; refine ⟨_, rfl, ?_⟩))
                        go_roundg k3
                        case measure => have := HK1.out; have := HK2.out; have := HK3.out; omega
                        case rel => exact ⟨(wrap64 (x7_3 - t107)), (wrap64 (x8_3 + 1)), (by first | rfl | (simp; done) | (simp [*]; done)), (by first | rfl | (simp; done) | (simp [*]; done)), H', ⟨by have := HK1.out; have := HK2.out; have := HK3.out; omega⟩, ⟨by repeat (first | (with_reducible first | exact HB.out | apply below_alloc | apply pw_below_drewN | apply below_drew1) | exact HB.out)⟩⟩
                      · rw [if_neg c13] at H
                        have c13b0 : decide (t107 ≤ x7_3) = false := decide_eq_false c13
                        clear c13
                        replace H := Option.bind_eq_some_iff.mp H
                        obtain ⟨t109, A150, H⟩ := H
                        replace H : (if t109.size + 1 ≤ 9223372036854775807 then ((stamp_two.f (Int.tmod (wrap64 (Int.tdiv rs_ 60)) 60)).bind fun t110 => (if (t109 ++ (⟨#[58]⟩ : ByteArray)).size + t110.size ≤ 9223372036854775807 then (if ((t109 ++ (⟨#[58]⟩ : ByteArray)) ++ t110).size + 1 ≤ 9223372036854775807 then ((stamp_two.f (Int.tmod rs_ 60)).bind fun t111 => (if (((t109 ++ (⟨#[58]⟩ : ByteArray)) ++ t110) ++ (⟨#[58]⟩ : ByteArray)).size + t111.size ≤ 9223372036854775807 then (if (rdOf ByteArray.empty wdT (ji3)).size + 1 ≤ 9223372036854775807 then ((stamp_two.f (wrap64 (x7_3 + 1))).bind fun t112 => (if 0 ≤ x8_3 then (if x8_3 < 12 then ((strconv_FormatInt.f x6_2 10).bind fun t114 => ((strings_Join.f (([(rdOf ByteArray.empty wdT (ji3)) ++ (⟨#[44]⟩ : ByteArray), t112, rdOf ByteArray.empty moT x8_3, t114, (((t109 ++ (⟨#[58]⟩ : ByteArray)) ++ t110) ++ (⟨#[58]⟩ : ByteArray)) ++ t111, (⟨#[43, 48, 48, 48, 48]⟩ : ByteArray)] : List ByteArray)) (⟨#[32]⟩ : ByteArray)).bind fun t118 => (some t118))) else (none)) else (none))) else (none)) else (none))) else (none)) else (none))) else (none)) = some r := H
                        have A15 := Aside0.mk A150
                        clear A150
                        by_cases c16 : t109.size + 1 ≤ 9223372036854775807
                        · rw [if_pos c16] at H
                          have c16b0 := eq_true c16
                          have c16b1 : decide (t109.size + 1 ≤ 9223372036854775807) = true := decide_eq_true c16
                          try have c16b2 : (9223372036854775807 < t109.size + 1) = False := eq_false (Nat.not_lt.2 c16)
                          replace H := Option.bind_eq_some_iff.mp H
                          obtain ⟨t110, A170, H⟩ := H
                          replace H : (if (t109 ++ (⟨#[58]⟩ : ByteArray)).size + t110.size ≤ 9223372036854775807 then (if ((t109 ++ (⟨#[58]⟩ : ByteArray)) ++ t110).size + 1 ≤ 9223372036854775807 then ((stamp_two.f (Int.tmod rs_ 60)).bind fun t111 => (if (((t109 ++ (⟨#[58]⟩ : ByteArray)) ++ t110) ++ (⟨#[58]⟩ : ByteArray)).size + t111.size ≤ 9223372036854775807 then (if (rdOf ByteArray.empty wdT (ji3)).size + 1 ≤ 9223372036854775807 then ((stamp_two.f (wrap64 (x7_3 + 1))).bind fun t112 => (if 0 ≤ x8_3 then (if x8_3 < 12 then ((strconv_FormatInt.f x6_2 10).bind fun t114 => ((strings_Join.f (([(rdOf ByteArray.empty wdT (ji3)) ++ (⟨#[44]⟩ : ByteArray), t112, rdOf ByteArray.empty moT x8_3, t114, (((t109 ++ (⟨#[58]⟩ : ByteArray)) ++ t110) ++ (⟨#[58]⟩ : ByteArray)) ++ t111, (⟨#[43, 48, 48, 48, 48]⟩ : ByteArray)] : List ByteArray)) (⟨#[32]⟩ : ByteArray)).bind fun t118 => (some t118))) else (none)) else (none))) else (none)) else (none))) else (none)) else (none)) = some r := H
                          have A17 := Aside0.mk A170
                          clear A170
                          by_cases c18 : (t109 ++ (⟨#[58]⟩ : ByteArray)).size + t110.size ≤ 9223372036854775807
                          · rw [if_pos c18] at H
                            have c18b0 := eq_true c18
                            have c18b1 : decide ((t109 ++ (⟨#[58]⟩ : ByteArray)).size + t110.size ≤ 9223372036854775807) = true := decide_eq_true c18
                            try have c18b2 : (9223372036854775807 < (t109 ++ (⟨#[58]⟩ : ByteArray)).size + t110.size) = False := eq_false (Nat.not_lt.2 c18)
                            try (have c18b2y := c18b2; rw [ByteArray.size_append] at c18b2y)
                            try have c18b2z : (9223372036854775807 < t109.size + 1 + t110.size) = False := eq_false (fun h_ => by have g_ := c18; simp only [ByteArray.size_append, show (⟨#[58]⟩ : ByteArray).size = 1 from rfl] at g_; omega)
                            by_cases c19 : ((t109 ++ (⟨#[58]⟩ : ByteArray)) ++ t110).size + 1 ≤ 9223372036854775807
                            · rw [if_pos c19] at H
                              have c19b0 := eq_true c19
                              have c19b1 : decide (((t109 ++ (⟨#[58]⟩ : ByteArray)) ++ t110).size + 1 ≤ 9223372036854775807) = true := decide_eq_true c19
                              try have c19b2 : (9223372036854775807 < ((t109 ++ (⟨#[58]⟩ : ByteArray)) ++ t110).size + 1) = False := eq_false (Nat.not_lt.2 c19)
                              try (have c19b2y := c19b2; rw [ByteArray.size_append] at c19b2y)
                              try have c19b2z : (9223372036854775807 < t109.size + 1 + t110.size + 1) = False := eq_false (fun h_ => by have g_ := c19; simp only [ByteArray.size_append, show (⟨#[58]⟩ : ByteArray).size = 1 from rfl] at g_; omega)
                              replace H := Option.bind_eq_some_iff.mp H
                              obtain ⟨t111, A200, H⟩ := H
                              replace H : (if (((t109 ++ (⟨#[58]⟩ : ByteArray)) ++ t110) ++ (⟨#[58]⟩ : ByteArray)).size + t111.size ≤ 9223372036854775807 then (if (rdOf ByteArray.empty wdT (ji3)).size + 1 ≤ 9223372036854775807 then ((stamp_two.f (wrap64 (x7_3 + 1))).bind fun t112 => (if 0 ≤ x8_3 then (if x8_3 < 12 then ((strconv_FormatInt.f x6_2 10).bind fun t114 => ((strings_Join.f (([(rdOf ByteArray.empty wdT (ji3)) ++ (⟨#[44]⟩ : ByteArray), t112, rdOf ByteArray.empty moT x8_3, t114, (((t109 ++ (⟨#[58]⟩ : ByteArray)) ++ t110) ++ (⟨#[58]⟩ : ByteArray)) ++ t111, (⟨#[43, 48, 48, 48, 48]⟩ : ByteArray)] : List ByteArray)) (⟨#[32]⟩ : ByteArray)).bind fun t118 => (some t118))) else (none)) else (none))) else (none)) else (none)) = some r := H
                              have A20 := Aside0.mk A200
                              clear A200
                              by_cases c21 : (((t109 ++ (⟨#[58]⟩ : ByteArray)) ++ t110) ++ (⟨#[58]⟩ : ByteArray)).size + t111.size ≤ 9223372036854775807
                              · rw [if_pos c21] at H
                                have c21b0 := eq_true c21
                                have c21b1 : decide ((((t109 ++ (⟨#[58]⟩ : ByteArray)) ++ t110) ++ (⟨#[58]⟩ : ByteArray)).size + t111.size ≤ 9223372036854775807) = true := decide_eq_true c21
                                try have c21b2 : (9223372036854775807 < (((t109 ++ (⟨#[58]⟩ : ByteArray)) ++ t110) ++ (⟨#[58]⟩ : ByteArray)).size + t111.size) = False := eq_false (Nat.not_lt.2 c21)
                                try (have c21b2y := c21b2; rw [ByteArray.size_append] at c21b2y)
                                try have c21b2z : (9223372036854775807 < t109.size + 1 + t110.size + 1 + t111.size) = False := eq_false (fun h_ => by have g_ := c21; simp only [ByteArray.size_append, show (⟨#[58]⟩ : ByteArray).size = 1 from rfl] at g_; omega)
                                by_cases c22 : (rdOf ByteArray.empty wdT (ji3)).size + 1 ≤ 9223372036854775807
                                · rw [if_pos c22] at H
                                  have c22b0 := eq_true c22
                                  have c22b1 : decide ((rdOf ByteArray.empty wdT (ji3)).size + 1 ≤ 9223372036854775807) = true := decide_eq_true c22
                                  try have c22b2 : (9223372036854775807 < (rdOf ByteArray.empty wdT (ji3)).size + 1) = False := eq_false (Nat.not_lt.2 c22)
                                  replace H := Option.bind_eq_some_iff.mp H
                                  obtain ⟨t112, A230, H⟩ := H
                                  replace H : (if 0 ≤ x8_3 then (if x8_3 < 12 then ((strconv_FormatInt.f x6_2 10).bind fun t114 => ((strings_Join.f (([(rdOf ByteArray.empty wdT (ji3)) ++ (⟨#[44]⟩ : ByteArray), t112, rdOf ByteArray.empty moT x8_3, t114, (((t109 ++ (⟨#[58]⟩ : ByteArray)) ++ t110) ++ (⟨#[58]⟩ : ByteArray)) ++ t111, (⟨#[43, 48, 48, 48, 48]⟩ : ByteArray)] : List ByteArray)) (⟨#[32]⟩ : ByteArray)).bind fun t118 => (some t118))) else (none)) else (none)) = some r := H
                                  have A23 := Aside0.mk A230
                                  clear A230
                                  by_cases c24 : 0 ≤ x8_3
                                  · rw [if_pos c24] at H
                                    have c24b0 : decide (0 ≤ x8_3) = true := decide_eq_true c24
                                    clear c24
                                    by_cases c25 : x8_3 < 12
                                    · rw [if_pos c25] at H
                                      have c25b0 : decide (x8_3 < 12) = true := decide_eq_true c25
                                      clear c25
                                      replace H := Option.bind_eq_some_iff.mp H
                                      obtain ⟨t114, A260, H⟩ := H
                                      replace H : ((strings_Join.f (([(rdOf ByteArray.empty wdT (ji3)) ++ (⟨#[44]⟩ : ByteArray), t112, rdOf ByteArray.empty moT x8_3, t114, (((t109 ++ (⟨#[58]⟩ : ByteArray)) ++ t110) ++ (⟨#[58]⟩ : ByteArray)) ++ t111, (⟨#[43, 48, 48, 48, 48]⟩ : ByteArray)] : List ByteArray)) (⟨#[32]⟩ : ByteArray)).bind fun t118 => (some t118)) = some r := H
                                      have A26 := Aside0.mk A260
                                      clear A260
                                      obtain ⟨y115, hy115⟩ : ∃ y_ : List ByteArray, y_ = (([(rdOf ByteArray.empty wdT (ji3)) ++ (⟨#[44]⟩ : ByteArray), t112, rdOf ByteArray.empty moT x8_3, t114, (((t109 ++ (⟨#[58]⟩ : ByteArray)) ++ t110) ++ (⟨#[58]⟩ : ByteArray)) ++ t111, (⟨#[43, 48, 48, 48, 48]⟩ : ByteArray)] : List ByteArray)) := ⟨_, rfl⟩
                                      replace H : ((strings_Join.f y115 (⟨#[32]⟩ : ByteArray)).bind fun t118 => (some t118)) = some r := by first | (rw [hy115]; with_reducible exact H) | (have H2_ := (Option.bind_some _ _).symm.trans H; rw [hy115]; with_reducible exact H2_) | (have H2_ := (Option.bind_some _ _).symm.trans H; with_reducible exact H2_) | with_reducible exact H | (rw [hy115]; exact H) | exact H
                                      have Ny115 := Aside0.mk hy115
                                      clear hy115
                                      replace H := Option.bind_eq_some_iff.mp H
                                      obtain ⟨t118, A270, H⟩ := H
                                      replace H : (some t118) = some r := H
                                      have A27 := Aside0.mk A270
                                      clear A270
                                      obtain rfl := Option.some.inj H
                                      try go_wp2_with (first | ((with_reducible refine gate_callee (f := 27) rfl ?_); refine goesL_ (some 45) rfl rfl Tryd.func27 (by kernel_rfl) rfl #[.int .i64 x6_2, .int .i64 x8_3] rfl (by (try simp only [List.map_toArray, List.map_cons, List.map_nil]); first | done | rfl | (simp only [List.length_drop, List.length_take]; rfl)) ?_; (with_reducible refine (stamp_length.calls x6_2 x8_3 t107 _ ?side1 A12.out).mono ?_); (case side1 => exact Glob.below HG.out (by repeat (first | (with_reducible first | exact HB.out | apply below_alloc | apply pw_below_drewN | apply below_drew1) | exact HB.out))); rintro e w' ⟨rfl, ⟨nd, rfl⟩⟩; refine ⟨_, rfl, ?_⟩) | ((with_reducible refine gate_callee (f := 28) rfl ?_); refine goesL_ (some 56) rfl rfl Tryd.func28 (by kernel_rfl) rfl #[.int .i64 (wrap64 (Int.tdiv rs_ 3600))] rfl (by (try simp only [List.map_toArray, List.map_cons, List.map_nil]); first | done | rfl | (simp only [List.length_drop, List.length_take]; rfl)) ?_; (with_reducible refine (stamp_two.calls (wrap64 (Int.tdiv rs_ 3600)) t109 _ A15.out).mono ?_); rintro e w28 ⟨rfl, hb⟩; refine ⟨_, rfl, ?_⟩; have n0_ := Aside0.mk (below_step (by repeat (first | (with_reducible first | exact HB.out | apply below_alloc | apply pw_below_drewN | apply below_drew1) | exact HB.out)) hb); clear HB; have HB := n0_; clear n0_; (try clear hb); (try clear hb2); (try clear hk); (try clear hi)) | ((with_reducible refine gate_callee (f := 28) rfl ?_); refine goesL_ (some 61) rfl rfl Tryd.func28 (by kernel_rfl) rfl #[.int .i64 (Int.tmod (wrap64 (Int.tdiv rs_ 60)) 60)] rfl (by (try simp only [List.map_toArray, List.map_cons, List.map_nil]); first | done | rfl | (simp only [List.length_drop, List.length_take]; rfl)) ?_; (with_reducible refine (stamp_two.calls (Int.tmod (wrap64 (Int.tdiv rs_ 60)) 60) t110 _ A17.out).mono ?_); rintro e w29 ⟨rfl, hb⟩; refine ⟨_, rfl, ?_⟩; have n0_ := Aside0.mk (below_step (by repeat (first | (with_reducible first | exact HB.out | apply below_alloc | apply pw_below_drewN | apply below_drew1) | exact HB.out)) hb); clear HB; have HB := n0_; clear n0_; (try clear hb); (try clear hb2); (try clear hk); (try clear hi)) | ((with_reducible refine gate_callee (f := 28) rfl ?_); refine goesL_ (some 66) rfl rfl Tryd.func28 (by kernel_rfl) rfl #[.int .i64 (Int.tmod rs_ 60)] rfl (by (try simp only [List.map_toArray, List.map_cons, List.map_nil]); first | done | rfl | (simp only [List.length_drop, List.length_take]; rfl)) ?_; (with_reducible refine (stamp_two.calls (Int.tmod rs_ 60) t111 _ A20.out).mono ?_); rintro e w30 ⟨rfl, hb⟩; refine ⟨_, rfl, ?_⟩; have n0_ := Aside0.mk (below_step (by repeat (first | (with_reducible first | exact HB.out | apply below_alloc | apply pw_below_drewN | apply below_drew1) | exact HB.out)) hb); clear HB; have HB := n0_; clear n0_; (try clear hb); (try clear hb2); (try clear hk); (try clear hi)))
                                      have n0_ := Aside0.mk (below_drew1 HB.out)
                                      clear HB
                                      have HB := n0_
                                      clear n0_
                                      have p113 : 0 ≤ (x8_3 : Int) := of_decide_eq_true (by first | (with_reducible assumption) | assumption)
                                      have q113 : x8_3 < (moT.length : Int) := of_decide_eq_true (by first | (with_reducible assumption) | assumption)
                                      have ql113 : ((x8_3 : Int) < (12 : Int)) = True := eq_true (of_decide_eq_true (by first | (with_reducible assumption) | assumption))
                                      obtain ⟨ad113, e113, hx113_0⟩ := Kd.at_string HRG1.out x8_3 p113 q113
                                      obtain rfl : (⟨1, 0, none⟩ : Addr) = ad113 := (by injection e113)
                                      have hw113_0 := hx113_0
                                      (first | simp only [add_plain] at hw113_0 | simp only [add_at] at hw113_0 | simp only [Addr.add, Nat.zero_add] at hw113_0 | skip)
                                      (first | simp only [add_plain] at hx113_0 | simp only [add_at] at hx113_0 | simp only [Addr.add, Nat.zero_add] at hx113_0 | skip)
                                      replace hx113_0 := (HB.out.cell (World.block_lt_of_cell? w _ hx113_0)).trans hx113_0
                                      replace p113 := eq_true p113
                                      replace q113 := eq_true q113
                                      refine start_ (n := 14) (S := fun w' => w'.cell? ⟨1, (x8_3).toNat, none⟩ = some (.string (rdOf ByteArray.empty moT x8_3))) (ds := []) #[false, false, false, false, false, false, false, false, false, false, false, false, false, false] (by kernel_rfl) rfl rfl (((HB.out.cell (World.block_lt_of_cell? w _ hw113_0)).trans hw113_0)) (fun hHeld => ?_); refine with_tabW stamp_Date.tab14 stamp_Date.bits14 (fun HT_ HW_ => ?_)
                                      generalize w30.drew = w31 at HB hx113_0 hHeld ⊢
                                      refine pure_ (i := 0) (N := some 68) (v := ?_) (a' := ?_) #[true, false, false, false, false, false, false, false, false, false, false, false, false, false] rfl rfl (any_of HT_.out (by kernel_rfl)) (fun _ _ _ h => h) (Or.inl ⟨by rfl, ?_⟩) ?_ ?_
                                      rotate_left
                                      · intro w'
                                        go_simp
                                        with_reducible rfl
                                      rotate_left
                                      · simp only [Act.put, List.setIfInBounds_toArray, List.set_cons_zero, List.set_cons_succ, i64_w, i32_w]
                                        rfl
                                      refine pure_ (i := 1) (N := some 69) (v := ?_) (a' := ?_) #[true, true, false, false, false, false, false, false, false, false, false, false, false, false] rfl rfl (any_of HT_.out (by kernel_rfl)) (fun _ _ _ h => h) (Or.inl ⟨by rfl, ?_⟩) ?_ ?_
                                      rotate_left
                                      · intro w'
                                        go_simp
                                        with_reducible rfl
                                      rotate_left
                                      · simp only [Act.put, List.setIfInBounds_toArray, List.set_cons_zero, List.set_cons_succ, i64_w, i32_w]
                                        rfl
                                      refine pure_ (i := 2) (N := some 70) (v := ?_) (a' := ?_) #[true, true, true, false, false, false, false, false, false, false, false, false, false, false] rfl rfl (any_of HT_.out (by kernel_rfl)) (fun _ _ _ h => h) (Or.inl ⟨by rfl, ?_⟩) ?_ ?_
                                      rotate_left
                                      · intro w'
                                        go_simp
                                        with_reducible rfl
                                      rotate_left
                                      · simp only [Act.put, List.setIfInBounds_toArray, List.set_cons_zero, List.set_cons_succ, i64_w, i32_w]
                                        rfl
                                      refine pure_ (i := 3) (N := some 71) (v := ?_) (a' := ?_) #[true, true, true, true, false, false, false, false, false, false, false, false, false, false] rfl rfl (any_of HT_.out (by kernel_rfl)) (fun _ _ _ h => h) (Or.inl ⟨by rfl, ?_⟩) ?_ ?_
                                      rotate_left
                                      · intro w'
                                        go_simp
                                        with_reducible rfl
                                      rotate_left
                                      · simp only [Act.put, List.setIfInBounds_toArray, List.set_cons_zero, List.set_cons_succ, i64_w, i32_w]
                                        rfl
                                      refine pure_ (i := 5) (N := some 73) (v := ?_) (a' := ?_) #[true, true, true, true, false, true, false, false, false, false, false, false, false, false] rfl rfl (any_of HT_.out (by kernel_rfl)) (fun _ _ _ h => h) (Or.inl ⟨by rfl, ?_⟩) ?_ ?_
                                      rotate_left
                                      · intro w'
                                        go_simp
                                        with_reducible rfl
                                      rotate_left
                                      · simp only [Act.put, List.setIfInBounds_toArray, List.set_cons_zero, List.set_cons_succ, i64_w, i32_w]
                                        rfl
                                      refine pure_ (i := 6) (N := some 74) (v := ?_) (a' := ?_) #[true, true, true, true, false, true, true, false, false, false, false, false, false, false] rfl rfl (any_of HT_.out (by kernel_rfl)) (fun _ _ _ h => h) (Or.inl ⟨by rfl, ?_⟩) ?_ ?_
                                      rotate_left
                                      · intro w'
                                        go_simp
                                        with_reducible rfl
                                      rotate_left
                                      · simp only [Act.put, List.setIfInBounds_toArray, List.set_cons_zero, List.set_cons_succ, i64_w, i32_w]
                                        rfl
                                      refine pure_ (i := 8) (N := some 76) (v := ?_) (a' := ?_) #[true, true, true, true, false, true, true, false, true, false, false, false, false, false] rfl rfl (any_of HT_.out (by kernel_rfl)) (fun _ _ _ h => h) (Or.inl ⟨by rfl, ?_⟩) ?_ ?_
                                      rotate_left
                                      · intro w'
                                        go_simp
                                        with_reducible rfl
                                      rotate_left
                                      · simp only [Act.put, List.setIfInBounds_toArray, List.set_cons_zero, List.set_cons_succ, i64_w, i32_w]
                                        rfl
                                      refine pure_ (i := 10) (N := some 78) (v := ?_) (a' := ?_) #[true, true, true, true, false, true, true, false, true, false, true, false, false, false] rfl rfl (any_of HT_.out (by kernel_rfl)) (fun _ _ _ h => h) (Or.inl ⟨by rfl, ?_⟩) ?_ ?_
                                      rotate_left
                                      · intro w'
                                        go_simp
                                        with_reducible rfl
                                      rotate_left
                                      · simp only [Act.put, List.setIfInBounds_toArray, List.set_cons_zero, List.set_cons_succ, i64_w, i32_w]
                                        rfl
                                      refine take_ (i := 7) (N := some 75) (v := ?_) (a' := ?_) #[true, true, true, true, false, true, true, true, true, false, true, false, false, false] rfl rfl (take_ofW HT_.out HW_.out (by kernel_rfl)) (fun _ _ _ h => h) (Or.inl ⟨by rfl, ?_⟩) hHeld ?_ ?_
                                      rotate_left
                                      · intro w' s0
                                        go_simp
                                        with_reducible rfl
                                      rotate_left
                                      · simp only [Act.put, List.setIfInBounds_toArray, List.set_cons_zero, List.set_cons_succ, i64_w, i32_w]
                                        rfl
                                      refine one_ (i := 4) (N := some 72) #[true, true, true, true, true, true, true, true, true, false, true, false, false, false] rfl rfl (one_of HT_.out (by kernel_rfl)) (by decide) (fun K hK => ?_)
                                      refine goes_ Tryd.func28 (by kernel_rfl) rfl #[.int .i64 (wrap64 (x7_3 + 1))] (by rfl) rfl rfl (by (try simp only [List.map_toArray, List.map_cons, List.map_nil]); first | done | rfl | (simp only [List.length_drop, List.length_take]; rfl)) ?_
                                      with_reducible refine (stamp_two.calls (wrap64 (x7_3 + 1)) t112 _ A23.out).mono ?_
                                      rintro e w32 ⟨rfl, hb⟩
                                      refine ⟨_, rfl, ?_⟩
                                      have n0_ := Aside0.mk (below_step (by repeat (first | (with_reducible first | exact HB.out | apply below_alloc | apply pw_below_drewN | apply below_drew1) | exact HB.out)) hb)
                                      clear HB
                                      have HB := n0_
                                      clear n0_
                                      (try clear hb)
                                      (try clear hb2)
                                      (try clear hk)
                                      (try clear hi)
                                      refine hK.out _ _ (((HB.out.cell (World.block_lt_of_cell? w _ hw113_0)).trans hw113_0)) (fun hHeld => ?_)
                                      clear hK K
                                      refine norm_ (a' := ?_) ?_ ?_
                                      rotate_left
                                      · show Act.put _ (some 72) _ = _
                                        simp only [Act.put, List.setIfInBounds_toArray, List.set_cons_zero, List.set_cons_succ, i64_w, i32_w]
                                        rfl
                                      refine one_ (i := 9) (N := some 77) #[true, true, true, true, true, true, true, true, true, true, true, false, false, false] rfl rfl (one_of HT_.out (by kernel_rfl)) (by decide) (fun K hK => ?_)
                                      refine goes_ Tryd.func30 (by kernel_rfl) rfl #[.int .i64 x6_2, .int .i64 10] (by rfl) rfl rfl (by (try simp only [List.map_toArray, List.map_cons, List.map_nil]); first | done | rfl | (simp only [List.length_drop, List.length_take]; rfl)) ?_
                                      with_reducible refine (strconv_FormatInt.calls x6_2 10 t114 _ ?side1 A26.out).mono ?_
                                      (case side1 => exact Glob.below HG.out (by repeat (first | (with_reducible first | exact HB.out | apply below_alloc | apply pw_below_drewN | apply below_drew1) | exact HB.out)))
                                      rintro e w33 ⟨rfl, hb⟩
                                      refine ⟨_, rfl, ?_⟩
                                      have n0_ := Aside0.mk (below_step (by repeat (first | (with_reducible first | exact HB.out | apply below_alloc | apply pw_below_drewN | apply below_drew1) | exact HB.out)) hb)
                                      clear HB
                                      have HB := n0_
                                      clear n0_
                                      (try clear hb)
                                      (try clear hb2)
                                      (try clear hk)
                                      (try clear hi)
                                      refine hK.out _ _ (((HB.out.cell (World.block_lt_of_cell? w _ hw113_0)).trans hw113_0)) (fun hHeld => ?_)
                                      clear hK K
                                      refine norm_ (a' := ?_) ?_ ?_
                                      rotate_left
                                      · show Act.put _ (some 77) _ = _
                                        simp only [Act.put, List.setIfInBounds_toArray, List.set_cons_zero, List.set_cons_succ, i64_w, i32_w]
                                        rfl
                                      refine one_ (i := 11) (N := some 79) #[true, true, true, true, true, true, true, true, true, true, true, true, false, false] rfl rfl (one_of HT_.out (by kernel_rfl)) (by decide) (fun K hK => ?_)
                                      refine Kd.R_lit_step Kd.string _ 9 ?hg (N := 79) ?hd (xs := ([(rdOf ByteArray.empty wdT (ji3)) ++ (⟨#[44]⟩ : ByteArray), t112, rdOf ByteArray.empty moT x8_3, t114, (((t109 ++ (⟨#[58]⟩ : ByteArray)) ++ t110) ++ (⟨#[58]⟩ : ByteArray)) ++ t111, (⟨#[43, 48, 48, 48, 48]⟩ : ByteArray)] : List ByteArray)) (inner := [.string ((rdOf ByteArray.empty wdT (ji3)) ++ (⟨#[44]⟩ : ByteArray)), .string t112, .string (rdOf ByteArray.empty moT x8_3), .string t114, .string ((((t109 ++ (⟨#[58]⟩ : ByteArray)) ++ t110) ++ (⟨#[58]⟩ : ByteArray)) ++ t111), .string (⟨#[43, 48, 48, 48, 48]⟩ : ByteArray)]) (ok := fun _ => True) (okp := fun _ => True) ?hr ?hp (fun _ hk => hk) trivial (Below.refl _ _) (Nat.le_refl _) (by simp) ?_; (case hd => rfl); (case hg => rfl); (case hr => first | (go_simp; done) | (go_simp; rfl)); (case hp => exact (Reps.one (show Kd.M Kd.string _ _ _ ((rdOf ByteArray.empty wdT (ji3)) ++ (⟨#[44]⟩ : ByteArray)) [.string ((rdOf ByteArray.empty wdT (ji3)) ++ (⟨#[44]⟩ : ByteArray))] from rfl) (Reps.one (show Kd.M Kd.string _ _ _ t112 [.string t112] from rfl) (Reps.one (show Kd.M Kd.string _ _ _ (rdOf ByteArray.empty moT x8_3) [.string (rdOf ByteArray.empty moT x8_3)] from rfl) (Reps.one (show Kd.M Kd.string _ _ _ t114 [.string t114] from rfl) (Reps.one (show Kd.M Kd.string _ _ _ ((((t109 ++ (⟨#[58]⟩ : ByteArray)) ++ t110) ++ (⟨#[58]⟩ : ByteArray)) ++ t111) [.string ((((t109 ++ (⟨#[58]⟩ : ByteArray)) ++ t110) ++ (⟨#[58]⟩ : ByteArray)) ++ t111)] from rfl) (Reps.one (show Kd.M Kd.string _ _ _ (⟨#[43, 48, 48, 48, 48]⟩ : ByteArray) [.string (⟨#[43, 48, 48, 48, 48]⟩ : ByteArray)] from rfl) (Reps.none _ _))))))))
                                      intro v116 w34 ho35 hb hg_ hnew_
                                      clear hg_ hnew_
                                      (first | rw [← Ny115.out] at ho35 | (simp only [Int.reduceToNat] at ho35; rw [← Ny115.out] at ho35))
                                      have n0_ := Aside0.mk (Kd.R_lower ho35 (below_size (by repeat (first | (with_reducible first | exact HB.out | apply below_alloc | apply pw_below_drewN | apply below_drew1) | exact HB.out))))
                                      have n1_ := Aside0.mk (below_step (by repeat (first | (with_reducible first | exact HB.out | apply below_alloc | apply pw_below_drewN | apply below_drew1) | exact HB.out)) hb)
                                      clear HB
                                      have HO117 := n0_
                                      have HB := n1_
                                      clear n0_ n1_
                                      clear hb ho35
                                      obtain ⟨Ao36, co36, eo36⟩ := Kd.R_slice HO117.out
                                      (first | subst eo36 | (injection eo36 with f1_ f2_ f3_; have f4_ := f1_.symm; have f5_ := f3_.symm; clear f1_ f2_ f3_; subst f4_; subst f5_))
                                      refine hK.out _ _ (((HB.out.cell (World.block_lt_of_cell? w _ hw113_0)).trans hw113_0)) (fun hHeld => ?_)
                                      clear hK K
                                      refine norm_ (a' := ?_) ?_ ?_
                                      rotate_left
                                      · show Act.put _ (some 79) _ = _
                                        simp only [Act.put, List.setIfInBounds_toArray, List.set_cons_zero, List.set_cons_succ, i64_w, i32_w]
                                        rfl
                                      refine one_ (i := 12) (N := some 80) #[true, true, true, true, true, true, true, true, true, true, true, true, true, false] rfl rfl (one_of HT_.out (by kernel_rfl)) (by decide) (fun K hK => ?_)
                                      refine goes_ Tryd.func29 (by kernel_rfl) rfl #[.slice Ao36 y115.length co36, .string (⟨#[32]⟩ : ByteArray)] (by rfl) rfl rfl (by (try simp only [List.map_toArray, List.map_cons, List.map_nil]); first | done | rfl | (simp only [List.length_drop, List.length_take]; rfl)) ?_
                                      with_reducible refine (strings_Join.calls _ _ y115 (⟨#[32]⟩ : ByteArray) t118 _ ?side1 ?side2 A27.out).mono ?_
                                      (case side1 => repeat (first | exact (Kd.R_reads' HO117.out).2.2 | (with_reducible refine Kd.C_alloc ?_ _) | (with_reducible refine Kd.C_drewN ?_ _) | (with_reducible refine Kd.C_drew ?_)))
                                      (case side2 => exact (Kd.R_reads' HO117.out).2.1)
                                      rintro e w37 ⟨rfl, hb⟩
                                      refine ⟨_, rfl, ?_⟩
                                      have n0_ := Aside0.mk (Kd.R_below (by (with_reducible repeat (first | apply Kd.R_alloc | apply Kd.R_drewN | apply Kd.R_drew)); exact HO117.out) hb)
                                      have n1_ := Aside0.mk (below_step (by repeat (first | (with_reducible first | exact HB.out | apply below_alloc | apply pw_below_drewN | apply below_drew1) | exact HB.out)) hb)
                                      clear HO117
                                      clear HB
                                      have HO117 := n0_
                                      have HB := n1_
                                      clear n0_ n1_
                                      (try clear hb)
                                      (try clear hb2)
                                      (try clear hk)
                                      (try clear hi)
                                      refine hK.out _ _ (((HB.out.cell (World.block_lt_of_cell? w _ hw113_0)).trans hw113_0)) (fun hHeld => ?_)
                                      clear hK K
                                      refine norm_ (a' := ?_) ?_ ?_
                                      rotate_left
                                      · show Act.put _ (some 80) _ = _
                                        simp only [Act.put, List.setIfInBounds_toArray, List.set_cons_zero, List.set_cons_succ, i64_w, i32_w]
                                        rfl
                                      refine pure_ (i := 13) (N := some 2) (v := ?_) (a' := ?_) #[true, true, true, true, true, true, true, true, true, true, true, true, true, true] rfl rfl (any_of HT_.out (by kernel_rfl)) (fun _ _ _ h => h) (Or.inl ⟨by rfl, ?_⟩) ?_ ?_
                                      rotate_left
                                      · intro w'
                                        go_simp
                                        with_reducible rfl
                                      rotate_left
                                      · simp only [Act.put, List.setIfInBounds_toArray, List.set_cons_zero, List.set_cons_succ, i64_w, i32_w]
                                        rfl
                                      refine done_ (done_of HT_.out (by kernel_rfl)) ?_
                                      try go_wp2
                                      go_ret
                                      exact ⟨by first | rfl | (simp [errW_none, errW_some] <;> rfl) | (simp only [← hji3]; first | rfl | (simp [errW_none, errW_some] <;> rfl)) | (simp [*, errW_none, errW_some] <;> rfl), by repeat (first | (with_reducible first | exact HB.out | apply below_alloc | apply pw_below_drewN | apply below_drew1) | exact HB.out)⟩
                                    · rw [if_neg c25] at H
                                      exact absurd H (by simp)
                                  · rw [if_neg c24] at H
                                    exact absurd H (by simp)
                                · rw [if_neg c22] at H
                                  exact absurd H (by simp)
                              · rw [if_neg c21] at H
                                exact absurd H (by simp)
                            · rw [if_neg c19] at H
                              exact absurd H (by simp)
                          · rw [if_neg c18] at H
                            exact absurd H (by simp)
                        · rw [if_neg c16] at H
                          exact absurd H (by simp)
    · rw [if_neg c5] at H
      exact absurd H (by simp)
  · rw [if_neg c4] at H
    exact absurd H (by simp)

/-! ### stamp_Text: function 10 -/
def stamp_Text.f (a0 : Int) : Option (ByteArray) := if 0 ≤ (((mx a0 0) % 1024) / 32) then (if (((mx a0 0) % 1024) / 32) ≤ ((((mx a0 0) % 1024) / 32) + 1) then (if ((((mx a0 0) % 1024) / 32) + 1) ≤ 32 then (if 0 ≤ (((mx a0 0) % 1024) % 32) then (if (((mx a0 0) % 1024) % 32) ≤ ((((mx a0 0) % 1024) % 32) + 1) then (if ((((mx a0 0) % 1024) % 32) + 1) ≤ 32 then (if ((⟨#[65, 66, 67, 68, 69, 70, 71, 72, 73, 74, 75, 76, 77, 78, 79, 80, 81, 82, 83, 84, 85, 86, 87, 88, 89, 90, 50, 51, 52, 53, 54, 55]⟩ : ByteArray).extract ((((mx a0 0) % 1024) / 32) : Int).toNat (((((mx a0 0) % 1024) / 32) + 1) : Int).toNat).size + ((⟨#[65, 66, 67, 68, 69, 70, 71, 72, 73, 74, 75, 76, 77, 78, 79, 80, 81, 82, 83, 84, 85, 86, 87, 88, 89, 90, 50, 51, 52, 53, 54, 55]⟩ : ByteArray).extract ((((mx a0 0) % 1024) % 32) : Int).toNat (((((mx a0 0) % 1024) % 32) + 1) : Int).toNat).size ≤ 9223372036854775807 then (some (((⟨#[65, 66, 67, 68, 69, 70, 71, 72, 73, 74, 75, 76, 77, 78, 79, 80, 81, 82, 83, 84, 85, 86, 87, 88, 89, 90, 50, 51, 52, 53, 54, 55]⟩ : ByteArray).extract ((((mx a0 0) % 1024) / 32) : Int).toNat (((((mx a0 0) % 1024) / 32) + 1) : Int).toNat) ++ ((⟨#[65, 66, 67, 68, 69, 70, 71, 72, 73, 74, 75, 76, 77, 78, 79, 80, 81, 82, 83, 84, 85, 86, 87, 88, 89, 90, 50, 51, 52, 53, 54, 55]⟩ : ByteArray).extract ((((mx a0 0) % 1024) % 32) : Int).toNat (((((mx a0 0) % 1024) % 32) + 1) : Int).toNat))) else (none)) else (none)) else (none)) else (none)) else (none)) else (none)) else (none)
set_option maxHeartbeats 8000000 in
set_option maxRecDepth 100000 in
theorem stamp_Text.calls (a0 : Int) (r : ByteArray) (w : World) (h : stamp_Text.f a0 = some r) :
    Calls Tryd.prog 10 #[.int .i64 a0] w fun e w' => e = .returned (.string r) ∧ Below w.heap.size w w' := by
  have HB := Aside0.mk (Below.refl w.heap.size w)
  have H : (if 0 ≤ (((mx a0 0) % 1024) / 32) then (if (((mx a0 0) % 1024) / 32) ≤ ((((mx a0 0) % 1024) / 32) + 1) then (if ((((mx a0 0) % 1024) / 32) + 1) ≤ 32 then (if 0 ≤ (((mx a0 0) % 1024) % 32) then (if (((mx a0 0) % 1024) % 32) ≤ ((((mx a0 0) % 1024) % 32) + 1) then (if ((((mx a0 0) % 1024) % 32) + 1) ≤ 32 then (if ((⟨#[65, 66, 67, 68, 69, 70, 71, 72, 73, 74, 75, 76, 77, 78, 79, 80, 81, 82, 83, 84, 85, 86, 87, 88, 89, 90, 50, 51, 52, 53, 54, 55]⟩ : ByteArray).extract ((((mx a0 0) % 1024) / 32) : Int).toNat (((((mx a0 0) % 1024) / 32) + 1) : Int).toNat).size + ((⟨#[65, 66, 67, 68, 69, 70, 71, 72, 73, 74, 75, 76, 77, 78, 79, 80, 81, 82, 83, 84, 85, 86, 87, 88, 89, 90, 50, 51, 52, 53, 54, 55]⟩ : ByteArray).extract ((((mx a0 0) % 1024) % 32) : Int).toNat (((((mx a0 0) % 1024) % 32) + 1) : Int).toNat).size ≤ 9223372036854775807 then (some (((⟨#[65, 66, 67, 68, 69, 70, 71, 72, 73, 74, 75, 76, 77, 78, 79, 80, 81, 82, 83, 84, 85, 86, 87, 88, 89, 90, 50, 51, 52, 53, 54, 55]⟩ : ByteArray).extract ((((mx a0 0) % 1024) / 32) : Int).toNat (((((mx a0 0) % 1024) / 32) + 1) : Int).toNat) ++ ((⟨#[65, 66, 67, 68, 69, 70, 71, 72, 73, 74, 75, 76, 77, 78, 79, 80, 81, 82, 83, 84, 85, 86, 87, 88, 89, 90, 50, 51, 52, 53, 54, 55]⟩ : ByteArray).extract ((((mx a0 0) % 1024) % 32) : Int).toNat (((((mx a0 0) % 1024) % 32) + 1) : Int).toNat))) else (none)) else (none)) else (none)) else (none)) else (none)) else (none)) else (none)) = some r := h
  clear h
  obtain ⟨ji2, hji2⟩ : ∃ j_ : Int, (mx a0 0) = j_ := ⟨_, rfl⟩
  replace H : (if 0 ≤ (((ji2) % 1024) / 32) then (if (((ji2) % 1024) / 32) ≤ ((((ji2) % 1024) / 32) + 1) then (if ((((ji2) % 1024) / 32) + 1) ≤ 32 then (if 0 ≤ (((ji2) % 1024) % 32) then (if (((ji2) % 1024) % 32) ≤ ((((ji2) % 1024) % 32) + 1) then (if ((((ji2) % 1024) % 32) + 1) ≤ 32 then (if ((⟨#[65, 66, 67, 68, 69, 70, 71, 72, 73, 74, 75, 76, 77, 78, 79, 80, 81, 82, 83, 84, 85, 86, 87, 88, 89, 90, 50, 51, 52, 53, 54, 55]⟩ : ByteArray).extract ((((ji2) % 1024) / 32) : Int).toNat (((((ji2) % 1024) / 32) + 1) : Int).toNat).size + ((⟨#[65, 66, 67, 68, 69, 70, 71, 72, 73, 74, 75, 76, 77, 78, 79, 80, 81, 82, 83, 84, 85, 86, 87, 88, 89, 90, 50, 51, 52, 53, 54, 55]⟩ : ByteArray).extract ((((ji2) % 1024) % 32) : Int).toNat (((((ji2) % 1024) % 32) + 1) : Int).toNat).size ≤ 9223372036854775807 then (some (((⟨#[65, 66, 67, 68, 69, 70, 71, 72, 73, 74, 75, 76, 77, 78, 79, 80, 81, 82, 83, 84, 85, 86, 87, 88, 89, 90, 50, 51, 52, 53, 54, 55]⟩ : ByteArray).extract ((((ji2) % 1024) / 32) : Int).toNat (((((ji2) % 1024) / 32) + 1) : Int).toNat) ++ ((⟨#[65, 66, 67, 68, 69, 70, 71, 72, 73, 74, 75, 76, 77, 78, 79, 80, 81, 82, 83, 84, 85, 86, 87, 88, 89, 90, 50, 51, 52, 53, 54, 55]⟩ : ByteArray).extract ((((ji2) % 1024) % 32) : Int).toNat (((((ji2) % 1024) % 32) + 1) : Int).toNat))) else (none)) else (none)) else (none)) else (none)) else (none)) else (none)) else (none)) = some r := by first | (rw [hji2] at H; exact H) | (simp only [hji2] at H ⊢; exact H)
  (try (have hji2l : 0 ≤ ji2 := by (rw [← hji2]; unfold mx; (repeat' split) <;> omega)))
  (try (have hji2m : 0 ≤ ji2 := by omega))
  have hji2_ : (if a0 < 0 then 0 else a0) = ji2 := hji2
  obtain ⟨ji3, hji3⟩ : ∃ j_ : Int, (((ji2) % 1024) / 32) = j_ := ⟨_, rfl⟩
  replace H : (if 0 ≤ (ji3) then (if (ji3) ≤ ((ji3) + 1) then (if ((ji3) + 1) ≤ 32 then (if 0 ≤ (((ji2) % 1024) % 32) then (if (((ji2) % 1024) % 32) ≤ ((((ji2) % 1024) % 32) + 1) then (if ((((ji2) % 1024) % 32) + 1) ≤ 32 then (if ((⟨#[65, 66, 67, 68, 69, 70, 71, 72, 73, 74, 75, 76, 77, 78, 79, 80, 81, 82, 83, 84, 85, 86, 87, 88, 89, 90, 50, 51, 52, 53, 54, 55]⟩ : ByteArray).extract ((ji3) : Int).toNat (((ji3) + 1) : Int).toNat).size + ((⟨#[65, 66, 67, 68, 69, 70, 71, 72, 73, 74, 75, 76, 77, 78, 79, 80, 81, 82, 83, 84, 85, 86, 87, 88, 89, 90, 50, 51, 52, 53, 54, 55]⟩ : ByteArray).extract ((((ji2) % 1024) % 32) : Int).toNat (((((ji2) % 1024) % 32) + 1) : Int).toNat).size ≤ 9223372036854775807 then (some (((⟨#[65, 66, 67, 68, 69, 70, 71, 72, 73, 74, 75, 76, 77, 78, 79, 80, 81, 82, 83, 84, 85, 86, 87, 88, 89, 90, 50, 51, 52, 53, 54, 55]⟩ : ByteArray).extract ((ji3) : Int).toNat (((ji3) + 1) : Int).toNat) ++ ((⟨#[65, 66, 67, 68, 69, 70, 71, 72, 73, 74, 75, 76, 77, 78, 79, 80, 81, 82, 83, 84, 85, 86, 87, 88, 89, 90, 50, 51, 52, 53, 54, 55]⟩ : ByteArray).extract ((((ji2) % 1024) % 32) : Int).toNat (((((ji2) % 1024) % 32) + 1) : Int).toNat))) else (none)) else (none)) else (none)) else (none)) else (none)) else (none)) else (none)) = some r := by first | (rw [hji3] at H; exact H) | (simp only [hji3] at H ⊢; exact H)
  by_cases c4 : 0 ≤ (ji3)
  · rw [if_pos c4] at H
    have c4b0 := eq_true c4
    have c4b1 : decide (0 ≤ (ji3)) = true := decide_eq_true c4
    clear c4
    by_cases c5 : (ji3) ≤ ((ji3) + 1)
    · rw [if_pos c5] at H
      have c5b0 := eq_true c5
      have c5b1 : decide ((ji3) ≤ ((ji3) + 1)) = true := decide_eq_true c5
      by_cases c6 : ((ji3) + 1) ≤ 32
      · rw [if_pos c6] at H
        have c6b0 := eq_true c6
        have c6b1 : decide (((ji3) + 1) ≤ 32) = true := decide_eq_true c6
        obtain ⟨ji7, hji7⟩ : ∃ j_ : Int, (((ji2) % 1024) % 32) = j_ := ⟨_, rfl⟩
        replace H : (if 0 ≤ (ji7) then (if (ji7) ≤ ((ji7) + 1) then (if ((ji7) + 1) ≤ 32 then (if ((⟨#[65, 66, 67, 68, 69, 70, 71, 72, 73, 74, 75, 76, 77, 78, 79, 80, 81, 82, 83, 84, 85, 86, 87, 88, 89, 90, 50, 51, 52, 53, 54, 55]⟩ : ByteArray).extract ((ji3) : Int).toNat (((ji3) + 1) : Int).toNat).size + ((⟨#[65, 66, 67, 68, 69, 70, 71, 72, 73, 74, 75, 76, 77, 78, 79, 80, 81, 82, 83, 84, 85, 86, 87, 88, 89, 90, 50, 51, 52, 53, 54, 55]⟩ : ByteArray).extract ((ji7) : Int).toNat (((ji7) + 1) : Int).toNat).size ≤ 9223372036854775807 then (some (((⟨#[65, 66, 67, 68, 69, 70, 71, 72, 73, 74, 75, 76, 77, 78, 79, 80, 81, 82, 83, 84, 85, 86, 87, 88, 89, 90, 50, 51, 52, 53, 54, 55]⟩ : ByteArray).extract ((ji3) : Int).toNat (((ji3) + 1) : Int).toNat) ++ ((⟨#[65, 66, 67, 68, 69, 70, 71, 72, 73, 74, 75, 76, 77, 78, 79, 80, 81, 82, 83, 84, 85, 86, 87, 88, 89, 90, 50, 51, 52, 53, 54, 55]⟩ : ByteArray).extract ((ji7) : Int).toNat (((ji7) + 1) : Int).toNat))) else (none)) else (none)) else (none)) else (none)) = some r := by first | (rw [hji7] at H; exact H) | (simp only [hji7] at H ⊢; exact H)
        by_cases c8 : 0 ≤ (ji7)
        · rw [if_pos c8] at H
          have c8b0 := eq_true c8
          have c8b1 : decide (0 ≤ (ji7)) = true := decide_eq_true c8
          clear c8
          by_cases c9 : (ji7) ≤ ((ji7) + 1)
          · rw [if_pos c9] at H
            have c9b0 := eq_true c9
            have c9b1 : decide ((ji7) ≤ ((ji7) + 1)) = true := decide_eq_true c9
            by_cases c10 : ((ji7) + 1) ≤ 32
            · rw [if_pos c10] at H
              have c10b0 := eq_true c10
              have c10b1 : decide (((ji7) + 1) ≤ 32) = true := decide_eq_true c10
              by_cases c11 : ((⟨#[65, 66, 67, 68, 69, 70, 71, 72, 73, 74, 75, 76, 77, 78, 79, 80, 81, 82, 83, 84, 85, 86, 87, 88, 89, 90, 50, 51, 52, 53, 54, 55]⟩ : ByteArray).extract ((ji3) : Int).toNat (((ji3) + 1) : Int).toNat).size + ((⟨#[65, 66, 67, 68, 69, 70, 71, 72, 73, 74, 75, 76, 77, 78, 79, 80, 81, 82, 83, 84, 85, 86, 87, 88, 89, 90, 50, 51, 52, 53, 54, 55]⟩ : ByteArray).extract ((ji7) : Int).toNat (((ji7) + 1) : Int).toNat).size ≤ 9223372036854775807
              · rw [if_pos c11] at H
                have c11b0 := eq_true c11
                have c11b1 : decide (((⟨#[65, 66, 67, 68, 69, 70, 71, 72, 73, 74, 75, 76, 77, 78, 79, 80, 81, 82, 83, 84, 85, 86, 87, 88, 89, 90, 50, 51, 52, 53, 54, 55]⟩ : ByteArray).extract ((ji3) : Int).toNat (((ji3) + 1) : Int).toNat).size + ((⟨#[65, 66, 67, 68, 69, 70, 71, 72, 73, 74, 75, 76, 77, 78, 79, 80, 81, 82, 83, 84, 85, 86, 87, 88, 89, 90, 50, 51, 52, 53, 54, 55]⟩ : ByteArray).extract ((ji7) : Int).toNat (((ji7) + 1) : Int).toNat).size ≤ 9223372036854775807) = true := decide_eq_true c11
                try have c11b2 : (9223372036854775807 < ((⟨#[65, 66, 67, 68, 69, 70, 71, 72, 73, 74, 75, 76, 77, 78, 79, 80, 81, 82, 83, 84, 85, 86, 87, 88, 89, 90, 50, 51, 52, 53, 54, 55]⟩ : ByteArray).extract ((ji3) : Int).toNat (((ji3) + 1) : Int).toNat).size + ((⟨#[65, 66, 67, 68, 69, 70, 71, 72, 73, 74, 75, 76, 77, 78, 79, 80, 81, 82, 83, 84, 85, 86, 87, 88, 89, 90, 50, 51, 52, 53, 54, 55]⟩ : ByteArray).extract ((ji7) : Int).toNat (((ji7) + 1) : Int).toNat).size) = False := eq_false (Nat.not_lt.2 c11)
                obtain rfl := Option.some.inj H
                go_enter Tryd.func10, Tryd.ntmps10
                go_wp2
                repeat (go_quiet (fail); try go_wp2)
                go_ret
                exact ⟨by first | rfl | (simp [errW_none, errW_some] <;> rfl) | (simp only [← hji2, ← hji3, ← hji7]; first | rfl | (simp [errW_none, errW_some] <;> rfl)) | (simp [*, errW_none, errW_some] <;> rfl), by repeat (first | (with_reducible first | exact HB.out | apply below_alloc | apply pw_below_drewN | apply below_drew1) | exact HB.out)⟩
              · rw [if_neg c11] at H
                exact absurd H (by simp)
            · rw [if_neg c10] at H
              exact absurd H (by simp)
          · rw [if_neg c9] at H
            exact absurd H (by simp)
        · rw [if_neg c8] at H
          exact absurd H (by simp)
      · rw [if_neg c6] at H
        exact absurd H (by simp)
    · rw [if_neg c5] at H
      exact absurd H (by simp)
  · rw [if_neg c4] at H
    exact absurd H (by simp)

/-! ### stamp_Age: function 12 -/
def stamp_Age.f (a0 : Int) (a1 : Int) : Option (Int) := some (((((mx a1 0) % 1024) - ((mx a0 0) % 1024)) + 1024) % 1024)
set_option maxHeartbeats 8000000 in
set_option maxRecDepth 100000 in
theorem stamp_Age.calls (a0 : Int) (a1 : Int) (r : Int) (w : World) (h : stamp_Age.f a0 a1 = some r) :
    Calls Tryd.prog 12 #[.int .i64 a0, .int .i64 a1] w fun e w' => e = .returned (.int .i64 r) ∧ Below w.heap.size w w' := by
  have HB := Aside0.mk (Below.refl w.heap.size w)
  have H : (some (((((mx a1 0) % 1024) - ((mx a0 0) % 1024)) + 1024) % 1024)) = some r := h
  clear h
  obtain ⟨ji3, hji3⟩ : ∃ j_ : Int, (mx a1 0) = j_ := ⟨_, rfl⟩
  replace H : (some (((((ji3) % 1024) - ((mx a0 0) % 1024)) + 1024) % 1024)) = some r := by first | (rw [hji3] at H; exact H) | (simp only [hji3] at H ⊢; exact H)
  (try (have hji3l : 0 ≤ ji3 := by (rw [← hji3]; unfold mx; (repeat' split) <;> omega)))
  (try (have hji3m : 0 ≤ ji3 := by omega))
  have hji3_ : (if a1 < 0 then 0 else a1) = ji3 := hji3
  obtain ⟨ji4, hji4⟩ : ∃ j_ : Int, (mx a0 0) = j_ := ⟨_, rfl⟩
  replace H : (some (((((ji3) % 1024) - ((ji4) % 1024)) + 1024) % 1024)) = some r := by first | (rw [hji4] at H; exact H) | (simp only [hji4] at H ⊢; exact H)
  (try (have hji4l : 0 ≤ ji4 := by (rw [← hji4]; unfold mx; (repeat' split) <;> omega)))
  (try (have hji4m : 0 ≤ ji4 := by omega))
  have hji4_ : (if a0 < 0 then 0 else a0) = ji4 := hji4
  obtain rfl := Option.some.inj H
  go_enter Tryd.func12, Tryd.ntmps12
  go_wp2
  go_ret
  exact ⟨by first | rfl | (simp [errW_none, errW_some] <;> rfl) | (simp only [← hji3, ← hji4]; first | rfl | (simp [errW_none, errW_some] <;> rfl)) | (simp [*, errW_none, errW_some] <;> rfl), by repeat (first | (with_reducible first | exact HB.out | apply below_alloc | apply pw_below_drewN | apply below_drew1) | exact HB.out)⟩

/-! ### strings_IndexByte: function 36 (by hand) -/
def strings_IndexByte.f (a0 : ByteArray) (a1 : Int) : Option Int := some (Lib.indexByte a0.data.toList a1.toNat.toUInt8)
theorem strings_IndexByte.calls (a0 : ByteArray) (a1 : Int) (r : Int) (w : World) (h : strings_IndexByte.f a0 a1 = some r) :
    Calls Tryd.prog 36 #[.string a0, .int .u8 a1] w fun e w' => e = .returned (.int .i64 r) ∧ Drawn0 w w' := by
  obtain rfl := Option.some.inj h
  refine (Tryd.strings_IndexByte a0 a1 w).mono ?_
  rintro e w' ⟨rfl, rfl⟩
  exact ⟨rfl, Drawn0.refl _⟩


end Go.Proofs.YtoigafnaoaafeaaDoor.Q
