/- Walks of functions. -/
import Derived.Test.YtgelfnjicglmbaaGreatDoorQx0
import Derived.Test.YtgelfnjicglmbaaGreatDoorQx7
set_option linter.unusedSimpArgs false
set_option linter.unusedVariables false
open Go.RowKit Go.Proofs.YtgelfnjicglmbaaGreatDoorW.PrintWords Go.Proofs.YtgelfnjicglmbaaGreatDoorW.PrintLast Go.Proofs.YtgelfnjicglmbaaGreatDoorW.PrintMore
set_option maxHeartbeats 8000000
set_option maxRecDepth 100000
attribute [local go_sem] max2_int min2_int max_two min_two max_three min_three max_four min_four
section
namespace Go.Proofs.YtgelfnjicglmbaaGreatDoor.Q

/-! ### path_Parse: function 13 -/
mutual
def path_Parse.j0 : Nat → ByteArray → List ByteArray → ByteArray → Int → Bool → Option (Bool × Bool × List ByteArray × ByteArray × ByteArray × ByteArray × Int)
 | 0, _, _, _, _, _ => none
 | k + 1, x0, x7, x8, x9, x37 => if x37 = true then (some (false, false, ([] : List ByteArray), (⟨#[]⟩ : ByteArray), (⟨#[]⟩ : ByteArray), (⟨#[]⟩ : ByteArray), 5)) else (if 0 ≤ x9 then (if x9 ≤ (x8.size : Int) then (if 0 ≤ (wrap64 (x9 + 1)) then (if (wrap64 (x9 + 1)) ≤ (x8.size : Int) then ((path_domains.f k x7).bind fun t231 => (if (x8.extract 0 (x9 : Int).toNat).toList = ([] : List UInt8) then (path_Parse.j1 k x0 x7 (x8.extract 0 (x9 : Int).toNat) (x8.extract ((wrap64 (x9 + 1)) : Int).toNat x8.size) t231 ((x7.length : Int) == 0) false false x7 (⟨#[]⟩ : ByteArray) (⟨#[]⟩ : ByteArray)) else (path_Parse.j1 k x0 x7 (x8.extract 0 (x9 : Int).toNat) (x8.extract ((wrap64 (x9 + 1)) : Int).toNat x8.size) t231 false false false x7 (⟨#[]⟩ : ByteArray) (⟨#[]⟩ : ByteArray)))) else (none)) else (none)) else (none)) else (none))
def path_Parse.j1 : Nat → ByteArray → List ByteArray → ByteArray → ByteArray → Int → Bool → Bool → Bool → List ByteArray → ByteArray → ByteArray → Option (Bool × Bool × List ByteArray × ByteArray × ByteArray × ByteArray × Int)
 | 0, _, _, _, _, _, _, _, _, _, _, _ => none
 | k + 1, x0, x7, x11, x12, x13, x67, x231000, x231001, x231002, x231003, x231004 => if x67 = true then (if x13 = 0 then (if (wrap64 ((x0.size : Int) - (x12.size : Int))) > 256 then (some (false, false, ([] : List ByteArray), (⟨#[]⟩ : ByteArray), (⟨#[]⟩ : ByteArray), (⟨#[]⟩ : ByteArray), 3)) else (some (true, x231001, x231002, x231003, x231004, x12, 0))) else (some (false, false, ([] : List ByteArray), (⟨#[]⟩ : ByteArray), (⟨#[]⟩ : ByteArray), (⟨#[]⟩ : ByteArray), 3))) else ((text_Same.f x11 (⟨#[112, 111, 115, 116, 109, 97, 115, 116, 101, 114]⟩ : ByteArray)).bind fun t232 => (if t232 = true then (path_Parse.j2 k x0 x11 x12 x13 ((x7.length : Int) == 0) x231000 x231001 x231002 x231003 x231004) else (path_Parse.j2 k x0 x11 x12 x13 false x231000 x231001 x231002 x231003 x231004)))
def path_Parse.j2 : Nat → ByteArray → ByteArray → ByteArray → Int → Bool → Bool → Bool → List ByteArray → ByteArray → ByteArray → Option (Bool × Bool × List ByteArray × ByteArray × ByteArray × ByteArray × Int)
 | 0, _, _, _, _, _, _, _, _, _, _ => none
 | k + 1, x0, x11, x12, x13, x76, x231000, x231001, x231002, x231003, x231004 => if x76 = true then (if x13 = 0 then (if (wrap64 ((x0.size : Int) - (x12.size : Int))) > 256 then (some (false, false, ([] : List ByteArray), (⟨#[]⟩ : ByteArray), (⟨#[]⟩ : ByteArray), (⟨#[]⟩ : ByteArray), 3)) else (some (x231000, true, x231002, x231003, x231004, x12, 0))) else (some (false, false, ([] : List ByteArray), (⟨#[]⟩ : ByteArray), (⟨#[]⟩ : ByteArray), (⟨#[]⟩ : ByteArray), 3))) else ((addr_Parse.f k x11).bind fun bt233 => (if bt233.2.2 = 5 then (path_Parse.j3 k x0 x12 x13 bt233.2.2 true x231000 x231001 x231002 x231003 x231004 bt233.1 bt233.2.1) else (path_Parse.j3 k x0 x12 x13 bt233.2.2 (x13 == 5) x231000 x231001 x231002 x231003 x231004 bt233.1 bt233.2.1)))
def path_Parse.j3 : Nat → ByteArray → ByteArray → Int → Int → Bool → Bool → Bool → List ByteArray → ByteArray → ByteArray → ByteArray → ByteArray → Option (Bool × Bool × List ByteArray × ByteArray × ByteArray × ByteArray × Int)
 | 0, _, _, _, _, _, _, _, _, _, _, _, _ => none
 | k + 1, x0, x12, x13, x15, x60, x231000, x231001, x231002, x231003, x231004, x237000, x237001 => if x60 = true then (some (false, false, ([] : List ByteArray), (⟨#[]⟩ : ByteArray), (⟨#[]⟩ : ByteArray), (⟨#[]⟩ : ByteArray), 5)) else (if (mx x13 x15) = 0 then (if (wrap64 ((x0.size : Int) - (x12.size : Int))) > 256 then (some (false, false, ([] : List ByteArray), (⟨#[]⟩ : ByteArray), (⟨#[]⟩ : ByteArray), (⟨#[]⟩ : ByteArray), 3)) else (some (x231000, x231001, x231002, x237000, x237001, x12, 0))) else (some (false, false, ([] : List ByteArray), (⟨#[]⟩ : ByteArray), (⟨#[]⟩ : ByteArray), (⟨#[]⟩ : ByteArray), 3)))
end
def path_Parse.f (k : Nat) (a0 : ByteArray) : Option (Bool × Bool × List ByteArray × ByteArray × ByteArray × ByteArray × Int) := (strings_CutPrefix.f a0 (⟨#[60]⟩ : ByteArray)).bind fun bt222 => (if bt222.2 = true then ((path_route.f k bt222.1).bind fun bt224 => ((path_ends.f k bt224.2.1).bind fun t229 => (if bt224.2.2 = true then (path_Parse.j0 k a0 bt224.1 bt224.2.1 t229 (decide (t229 < 0))) else (path_Parse.j0 k a0 bt224.1 bt224.2.1 t229 true)))) else (some (false, false, ([] : List ByteArray), (⟨#[]⟩ : ByteArray), (⟨#[]⟩ : ByteArray), (⟨#[]⟩ : ByteArray), 5)))
theorem path_Parse.mono_l : ∀ k, (∀ y0 y1 y2 y3 y4, LeO (path_Parse.j0 k y0 y1 y2 y3 y4) (path_Parse.j0 (k + 1) y0 y1 y2 y3 y4)) ∧ (∀ y0 y1 y2 y3 y4 y5 y6 y7 y8 y9 y10, LeO (path_Parse.j1 k y0 y1 y2 y3 y4 y5 y6 y7 y8 y9 y10) (path_Parse.j1 (k + 1) y0 y1 y2 y3 y4 y5 y6 y7 y8 y9 y10)) ∧ (∀ y0 y1 y2 y3 y4 y5 y6 y7 y8 y9, LeO (path_Parse.j2 k y0 y1 y2 y3 y4 y5 y6 y7 y8 y9) (path_Parse.j2 (k + 1) y0 y1 y2 y3 y4 y5 y6 y7 y8 y9)) ∧ (∀ y0 y1 y2 y3 y4 y5 y6 y7 y8 y9 y10 y11, LeO (path_Parse.j3 k y0 y1 y2 y3 y4 y5 y6 y7 y8 y9 y10 y11) (path_Parse.j3 (k + 1) y0 y1 y2 y3 y4 y5 y6 y7 y8 y9 y10 y11))
 | 0 => ⟨fun _ _ _ _ _ r h => by simp [path_Parse.j0] at h, fun _ _ _ _ _ _ _ _ _ _ _ r h => by simp [path_Parse.j1] at h, fun _ _ _ _ _ _ _ _ _ _ r h => by simp [path_Parse.j2] at h, fun _ _ _ _ _ _ _ _ _ _ _ _ r h => by simp [path_Parse.j3] at h⟩
 | k + 1 => by
  obtain ⟨ih0, ih1, ih2, ih3⟩ := path_Parse.mono_l k
  refine ⟨?_, ?_, ?_, ?_⟩
  ·intro y0 y1 y2 y3 y4
   unfold path_Parse.j0
   repeat' first
   | (with_reducible first | exact ih0 _ _ _ _ _ | exact ih1 _ _ _ _ _ _ _ _ _ _ _ | exact ih2 _ _ _ _ _ _ _ _ _ _ | exact ih3 _ _ _ _ _ _ _ _ _ _ _ _ | exact addr_Parse.mono _ _ | exact path_domains.mono _ _ | exact path_ends.mono _ _ | exact path_route.mono _ _ | exact LeO.refl _ | exact LeO.none _ | refine LeO.ite ?_ ?_ | refine LeO.bind ?_ (fun _ => ?_))
  ·intro y0 y1 y2 y3 y4 y5 y6 y7 y8 y9 y10
   unfold path_Parse.j1
   repeat' first
   | (with_reducible first | exact ih0 _ _ _ _ _ | exact ih1 _ _ _ _ _ _ _ _ _ _ _ | exact ih2 _ _ _ _ _ _ _ _ _ _ | exact ih3 _ _ _ _ _ _ _ _ _ _ _ _ | exact addr_Parse.mono _ _ | exact path_domains.mono _ _ | exact path_ends.mono _ _ | exact path_route.mono _ _ | exact LeO.refl _ | exact LeO.none _ | refine LeO.ite ?_ ?_ | refine LeO.bind ?_ (fun _ => ?_))
  ·intro y0 y1 y2 y3 y4 y5 y6 y7 y8 y9
   unfold path_Parse.j2
   repeat' first
   | (with_reducible first | exact ih0 _ _ _ _ _ | exact ih1 _ _ _ _ _ _ _ _ _ _ _ | exact ih2 _ _ _ _ _ _ _ _ _ _ | exact ih3 _ _ _ _ _ _ _ _ _ _ _ _ | exact addr_Parse.mono _ _ | exact path_domains.mono _ _ | exact path_ends.mono _ _ | exact path_route.mono _ _ | exact LeO.refl _ | exact LeO.none _ | refine LeO.ite ?_ ?_ | refine LeO.bind ?_ (fun _ => ?_))
  ·intro y0 y1 y2 y3 y4 y5 y6 y7 y8 y9 y10 y11
   unfold path_Parse.j3
   repeat' first
   | (with_reducible first | exact ih0 _ _ _ _ _ | exact ih1 _ _ _ _ _ _ _ _ _ _ _ | exact ih2 _ _ _ _ _ _ _ _ _ _ | exact ih3 _ _ _ _ _ _ _ _ _ _ _ _ | exact addr_Parse.mono _ _ | exact path_domains.mono _ _ | exact path_ends.mono _ _ | exact path_route.mono _ _ | exact LeO.refl _ | exact LeO.none _ | refine LeO.ite ?_ ?_ | refine LeO.bind ?_ (fun _ => ?_))
theorem path_Parse.mono : ∀ a0 k, LeO (path_Parse.f k a0) (path_Parse.f (k + 1) a0) := by
 intro a0 k
 obtain ⟨ih0, ih1, ih2, ih3⟩ := path_Parse.mono_l k
 unfold path_Parse.f
 repeat' first
   | (with_reducible first | exact ih0 _ _ _ _ _ | exact ih1 _ _ _ _ _ _ _ _ _ _ _ | exact ih2 _ _ _ _ _ _ _ _ _ _ | exact ih3 _ _ _ _ _ _ _ _ _ _ _ _ | exact addr_Parse.mono _ _ | exact path_domains.mono _ _ | exact path_ends.mono _ _ | exact path_route.mono _ _ | exact LeO.refl _ | exact LeO.none _ | refine LeO.ite ?_ ?_ | refine LeO.bind ?_ (fun _ => ?_))
def path_Parse.T8 : Bool × List (List Nat × List Nat) := (true, [([], []), ([0], [0]), ([], []), ([], []), ([2, 3], [2, 3]), ([], []), ([], []), ([6], [6]), ([5, 7], [5, 7]), ([], []), ([9, 1, 0, 1, 9], [1, 9]), ([4, 10, 0, 1, 2, 3, 4, 9, 10], [4]), ([8, 11, 0, 1, 2, 3, 4, 5, 6, 7, 8, 9, 10, 11], [8])])
def path_Parse.B8 : List Nat := [0, 1, 0, 0, 12, 0, 0, 64, 224, 0, 515, 1567, 4095]
theorem path_Parse.tab8 : rtab .any (opsOf Tryz.f13 8) = path_Parse.T8 := by kernel_rfl
theorem path_Parse.bits8 : waitsOk path_Parse.T8.2 path_Parse.B8 = true := by kernel_rfl
theorem path_Parse.calls (k : Nat) (a0 : ByteArray) (r1 : Bool) (r2 : Bool) (r3 : List ByteArray) (r4 : ByteArray) (r5 : ByteArray) (r6 : ByteArray) (r7 : Int) (w : World) (hG : Glob w) (h : path_Parse.f k a0 = some (r1, r2, r3, r4, r5, r6, r7)) :
  Calls Tryz.prog 13 #[.string a0] w fun e w' => ∃ v2_ : Value, e = .returned (.tuple #[.agg #[.bool r1, .bool r2, v2_, .string r4, .string r5], .string r6, .int .i64 r7]) ∧ Kd.R Kd.string 9 w' w.heap.size (fun _ => True) v2_ r3 ∧ Below w.heap.size w w' := by
 have hu26 := Tryz.underlying26
 have hu24 := Tryz.underlying24
 have HB := Aside0.mk (Below.refl w.heap.size w)
 have HG := Aside0.mk hG
 clear hG
 have H : ((strings_CutPrefix.f a0 (⟨#[60]⟩ : ByteArray)).bind fun bt222 => (if bt222.2 = true then ((path_route.f k bt222.1).bind fun bt224 => ((path_ends.f k bt224.2.1).bind fun t229 => (if bt224.2.2 = true then (path_Parse.j0 k a0 bt224.1 bt224.2.1 t229 (decide (t229 < 0))) else (path_Parse.j0 k a0 bt224.1 bt224.2.1 t229 true)))) else (some (false, false, ([] : List ByteArray), (⟨#[]⟩ : ByteArray), (⟨#[]⟩ : ByteArray), (⟨#[]⟩ : ByteArray), 5)))) = some (r1, r2, r3, r4, r5, r6, r7) := h
 clear h
 obtain ⟨⟨t222, t223⟩, A20, H⟩ := Option.bind_eq_some_iff.mp H
 replace H : (if t223 = true then ((path_route.f k t222).bind fun bt224 => ((path_ends.f k bt224.2.1).bind fun t229 => (if bt224.2.2 = true then (path_Parse.j0 k a0 bt224.1 bt224.2.1 t229 (decide (t229 < 0))) else (path_Parse.j0 k a0 bt224.1 bt224.2.1 t229 true)))) else (some (false, false, ([] : List ByteArray), (⟨#[]⟩ : ByteArray), (⟨#[]⟩ : ByteArray), (⟨#[]⟩ : ByteArray), 5))) = some (r1, r2, r3, r4, r5, r6, r7) := H
 have A2 := Aside0.mk A20
 clear A20
 by_cases c3 : t223 = true
 ·subst c3
  replace H : ((path_route.f k t222).bind fun bt224 => ((path_ends.f k bt224.2.1).bind fun t229 => (if bt224.2.2 = true then (path_Parse.j0 k a0 bt224.1 bt224.2.1 t229 (decide (t229 < 0))) else (path_Parse.j0 k a0 bt224.1 bt224.2.1 t229 true)))) = some (r1, r2, r3, r4, r5, r6, r7) := by rw [if_pos rfl] at H; exact H
  obtain ⟨⟨t224, t225, t226⟩, A40, H⟩ := Option.bind_eq_some_iff.mp H
  replace H : ((path_ends.f k t225).bind fun t229 => (if t226 = true then (path_Parse.j0 k a0 t224 t225 t229 (decide (t229 < 0))) else (path_Parse.j0 k a0 t224 t225 t229 true))) = some (r1, r2, r3, r4, r5, r6, r7) := H
  have A4 := Aside0.mk A40
  clear A40
  obtain ⟨t229, A50, H⟩ := Option.bind_eq_some_iff.mp H
  replace H : (if t226 = true then (path_Parse.j0 k a0 t224 t225 t229 (decide (t229 < 0))) else (path_Parse.j0 k a0 t224 t225 t229 true)) = some (r1, r2, r3, r4, r5, r6, r7) := H
  have A5 := Aside0.mk A50
  clear A50
  have HC6 := Aside0.mk H
  clear H
  go_enter Tryz.func13, Tryz.ntmps13
  go_upto_region 6 with (first | ((with_reducible refine gate_dst (N := 2) rfl ?_); (try (refine gate_guard (by rfl) ?_; dsimp only)); refine box_event ?hg (N := 2) ?hd (cs := #[.bool false, .bool false, .slice none 0 0, .string (⟨#[]⟩ : ByteArray), .string (⟨#[]⟩ : ByteArray)]) (t := 26) ?hr ?_; (case hd => rfl); (case hg => rfl); (case hr => first | (go_simp; done) | (go_simp; rfl)); intro gb221 hg w7 hbox hb; have BK221 := Aside0.mk (hbox); have GW221 := Aside0.mk (gz hg : w.heap.size ≤ gb221); have GE221 := Aside0.mk (gz hg : w.heap.size ≤ gb221); replace HB := Aside0.mk (below_step bl hb); clear hb hbox hg) | ((with_reducible refine gate_callee (f := 30) rfl ?_); refine goesL_ (some 18) rfl rfl Tryz.func30 kf rfl #[.string a0, .string (⟨#[60]⟩ : ByteArray)] rfl ml ?_; (with_reducible refine (strings_CutPrefix.calls a0 (⟨#[60]⟩ : ByteArray) t222 true _ A2.out).mono ?_); rintro e w' ⟨rfl, ⟨nd, rfl⟩⟩; refine ⟨_, rfl, ?_⟩) | ((with_reducible refine gate_callee (f := 31) rfl ?_); refine goesL_ (some 26) rfl rfl Tryz.func31 kf rfl #[.string t222] rfl ml ?_; (with_reducible refine (path_route.calls k t222 t224 t225 t226 _ ?side1 A4.out).mono ?_); (case side1 => exact Glob.below HG.out bl); rintro e w8 ⟨v227, rfl, ho0, hb⟩; refine ⟨_, rfl, ?_⟩; have HO228 := Aside0.mk (Kd.R_lower ho0 (below_size bl)); replace BK221 := Aside0.mk (kb BK221.out hb); replace HB := Aside0.mk (below_step bl hb); (try clear hb); (try clear hb2); (try clear hk); (try clear hi); (try clear ho0)) | ((with_reducible refine gate_callee (f := 32) rfl ?_); refine goesL_ (some 31) rfl rfl Tryz.func32 kf rfl #[.string t225] rfl ml ?_; (with_reducible refine (path_ends.calls k t225 t229 _ A5.out).mono ?_); rintro e w9 ⟨rfl, hb⟩; refine ⟨_, rfl, ?_⟩; replace HO228 := Aside0.mk (Kd.R_below (kr HO228.out) hb); replace BK221 := Aside0.mk (kb BK221.out hb); replace HB := Aside0.mk (below_step bl hb); (try clear hb); (try clear hb2); (try clear hk); (try clear hi)))
  (try simp only [Act.put, sA, sB, sC])
  go_cut [37] (fun v37 wc => ∃ (kq : Nat) (x37_5 : Bool), v37 = .bool x37_5 ∧ Aside0 (path_Parse.j0 kq a0 t224 t225 t229 x37_5 = some (r1, r2, r3, r4, r5, r6, r7)) ∧ Aside0 (kq ≤ k) ∧ Aside0 (Kd.R Kd.string 9 wc w.heap.size (fun _ => True) v227 t224) ∧ Aside0 (wc.heap[gb221]? = some (.cells #[.bool false, .bool false, (.slice none 0 0), .string (⟨#[]⟩ : ByteArray), .string (⟨#[]⟩ : ByteArray)] 26 (0, 0))) ∧ Aside0 (Below w.heap.size w wc))
  case first =>
   have H := HC6.out
   clear HC6
   by_cases c10 : t226 = true
   ·subst c10
    replace H : (path_Parse.j0 k a0 t224 t225 t229 (decide (t229 < 0))) = some (r1, r2, r3, r4, r5, r6, r7) := by rw [if_pos rfl] at H; exact H
    have H' := Aside0.mk H
    clear H
    go_wp2
    go_meet
    case rel => exact ⟨_, (decide (t229 < 0)), rs, H', ⟨by first | omega | exact Nat.le_refl _⟩, ⟨kr HO228.out⟩, ⟨bk BK221.out⟩, ⟨bl⟩⟩
   ·replace c10 := Bool.eq_false_iff.mpr c10
    subst c10
    replace H : (path_Parse.j0 k a0 t224 t225 t229 true) = some (r1, r2, r3, r4, r5, r6, r7) := by rw [if_neg (show ¬ (false = true) by decide)] at H; exact H
    have H' := Aside0.mk H
    clear H
    go_wp2
    go_meet
    case rel => exact ⟨_, (true), rs, H', ⟨by first | omega | exact Nat.le_refl _⟩, ⟨kr HO228.out⟩, ⟨bk BK221.out⟩, ⟨bl⟩⟩
  case rest =>
   clear HC6
   try clear c1
   try clear p2
   try clear c3
   try clear c10
   obtain ⟨kq, x37_5, rfl, HA, HJ5, HO_7, BK221, HB⟩ := hcut
   cases kq with
   | zero => exact absurd HA.out (by simp [path_Parse.j0])
   | succ kj5 =>
    have H := HA.out
    clear HA
    simp only [path_Parse.j0] at H
    by_cases c11 : x37_5 = true
    ·subst c11
     replace H : (some (false, false, ([] : List ByteArray), (⟨#[]⟩ : ByteArray), (⟨#[]⟩ : ByteArray), (⟨#[]⟩ : ByteArray), 5)) = some (r1, r2, r3, r4, r5, r6, r7) := by rw [if_pos rfl] at H; exact H
     simp only [Option.some.injEq, Prod.mk.injEq] at H
     obtain ⟨rfl, rfl, rfl, rfl, rfl, rfl, rfl⟩ := H
     have hcz12_0 := cz BK221.out 0 (.bool false)
     have hcz12_1 := cz BK221.out 1 (.bool false)
     have hcz12_2 := cz BK221.out 2 (.slice none 0 0)
     have hcz12_3 := cz BK221.out 3 (.string (⟨#[]⟩ : ByteArray))
     have hcz12_4 := cz BK221.out 4 (.string (⟨#[]⟩ : ByteArray))
     have hfz12_0 := blk_frozen BK221.out 0
     have hfz12_1 := blk_frozen BK221.out 1
     have hfz12_2 := blk_frozen BK221.out 2
     have hfz12_3 := blk_frozen BK221.out 3
     have hfz12_4 := blk_frozen BK221.out 4
     go_wp2
     refine bodyPost_ret (results_ctt rfl _ _ gb221 26 #[.bool false, .bool false, .slice none 0 0, .string (⟨#[]⟩ : ByteArray), .string (⟨#[]⟩ : ByteArray)] (0, 0) _ rfl (by (with_reducible repeat (first | refine blk_drewN ?_ _ | refine blk_drew ?_ | refine blk_alloc ?_ _)); refine blk_put (cs := #[.bool false, .bool false, .slice none 0 0, .string (⟨#[]⟩ : ByteArray), .string (⟨#[]⟩ : ByteArray)]) ?_ 4 _ rfl; (with_reducible repeat (first | refine blk_drewN ?_ _ | refine blk_drew ?_ | refine blk_alloc ?_ _)); refine blk_put (cs := #[.bool false, .bool false, .slice none 0 0, .string (⟨#[]⟩ : ByteArray), .string (⟨#[]⟩ : ByteArray)]) ?_ 3 _ rfl; (with_reducible repeat (first | refine blk_drewN ?_ _ | refine blk_drew ?_ | refine blk_alloc ?_ _)); refine blk_put (cs := #[.bool false, .bool false, .slice none 0 0, .string (⟨#[]⟩ : ByteArray), .string (⟨#[]⟩ : ByteArray)]) ?_ 2 _ rfl; (with_reducible repeat (first | refine blk_drewN ?_ _ | refine blk_drew ?_ | refine blk_alloc ?_ _)); refine blk_put (cs := #[.bool false, .bool false, .slice none 0 0, .string (⟨#[]⟩ : ByteArray), .string (⟨#[]⟩ : ByteArray)]) ?_ 1 _ rfl; (with_reducible repeat (first | refine blk_drewN ?_ _ | refine blk_drew ?_ | refine blk_alloc ?_ _)); refine blk_put (cs := #[.bool false, .bool false, .slice none 0 0, .string (⟨#[]⟩ : ByteArray), .string (⟨#[]⟩ : ByteArray)]) ?_ 0 _ rfl; (with_reducible repeat (first | refine blk_drewN ?_ _ | refine blk_drew ?_ | refine blk_alloc ?_ _)); exact BK221.out) Tryz.underlying26 rfl kf) rfl ?_
     exact ⟨_, by first | rfl | (simp [errW_none, errW_some] <;> rfl) | (simp [*, errW_none, errW_some] <;> rfl), by first | exact Kd.R_nil _ _ _ _ _ | exact Kd.N_nil _ _ _ _ _ | exact Kd.V_nil _ _ _ _ _ | exact Kd.Q_nil _ _ _ _ _ | exact Kd.S_nil _ _ _ _ _, bl⟩
    ·replace c11 := Bool.eq_false_iff.mpr c11
     subst c11
     replace H : (if 0 ≤ t229 then (if t229 ≤ (t225.size : Int) then (if 0 ≤ (wrap64 (t229 + 1)) then (if (wrap64 (t229 + 1)) ≤ (t225.size : Int) then ((path_domains.f kj5 t224).bind fun t231 => (if (t225.extract 0 (t229 : Int).toNat).toList = ([] : List UInt8) then (path_Parse.j1 kj5 a0 t224 (t225.extract 0 (t229 : Int).toNat) (t225.extract ((wrap64 (t229 + 1)) : Int).toNat t225.size) t231 ((t224.length : Int) == 0) false false t224 (⟨#[]⟩ : ByteArray) (⟨#[]⟩ : ByteArray)) else (path_Parse.j1 kj5 a0 t224 (t225.extract 0 (t229 : Int).toNat) (t225.extract ((wrap64 (t229 + 1)) : Int).toNat t225.size) t231 false false false t224 (⟨#[]⟩ : ByteArray) (⟨#[]⟩ : ByteArray)))) else (none)) else (none)) else (none)) else (none)) = some (r1, r2, r3, r4, r5, r6, r7) := by rw [if_neg (show ¬ (false = true) by decide)] at H; exact H
     by_cases c13 : 0 ≤ t229
     rotate_left
     ·rw [if_neg c13] at H
      exact ab H
     rw [if_pos c13] at H
     have c13b0 := eq_true c13
     have c13b1 : decide (0 ≤ t229) = true := decide_eq_true c13
     clear c13
     by_cases c14 : t229 ≤ (t225.size : Int)
     rotate_left
     ·rw [if_neg c14] at H
      exact ab H
     rw [if_pos c14] at H
     have c14b0 := eq_true c14
     have c14b1 : decide (t229 ≤ (t225.size : Int)) = true := decide_eq_true c14
     clear c14
     obtain ⟨js15, hjs15⟩ : ∃ j_ : ByteArray, (t225.extract 0 (t229 : Int).toNat) = j_ := ⟨_, rfl⟩
     replace H : (if 0 ≤ (wrap64 (t229 + 1)) then (if (wrap64 (t229 + 1)) ≤ (t225.size : Int) then ((path_domains.f kj5 t224).bind fun t231 => (if js15.toList = ([] : List UInt8) then (path_Parse.j1 kj5 a0 t224 js15 (t225.extract ((wrap64 (t229 + 1)) : Int).toNat t225.size) t231 ((t224.length : Int) == 0) false false t224 (⟨#[]⟩ : ByteArray) (⟨#[]⟩ : ByteArray)) else (path_Parse.j1 kj5 a0 t224 js15 (t225.extract ((wrap64 (t229 + 1)) : Int).toNat t225.size) t231 false false false t224 (⟨#[]⟩ : ByteArray) (⟨#[]⟩ : ByteArray)))) else (none)) else (none)) = some (r1, r2, r3, r4, r5, r6, r7) := by first | (rw [hjs15] at H; exact H) | (simp only [hjs15] at H ⊢; exact H)
     obtain ⟨ji16, hji16⟩ : ∃ j_ : Int, (wrap64 (t229 + 1)) = j_ := ⟨_, rfl⟩
     replace H : (if 0 ≤ (ji16) then (if (ji16) ≤ (t225.size : Int) then ((path_domains.f kj5 t224).bind fun t231 => (if js15.toList = ([] : List UInt8) then (path_Parse.j1 kj5 a0 t224 js15 (t225.extract ((ji16) : Int).toNat t225.size) t231 ((t224.length : Int) == 0) false false t224 (⟨#[]⟩ : ByteArray) (⟨#[]⟩ : ByteArray)) else (path_Parse.j1 kj5 a0 t224 js15 (t225.extract ((ji16) : Int).toNat t225.size) t231 false false false t224 (⟨#[]⟩ : ByteArray) (⟨#[]⟩ : ByteArray)))) else (none)) else (none)) = some (r1, r2, r3, r4, r5, r6, r7) := by first | (rw [hji16] at H; exact H) | (simp only [hji16] at H ⊢; exact H)
     have hji16w : (IntKind.i64.wrap (t229 + 1)) = ji16 := (i64_w _).trans hji16
     by_cases c17 : 0 ≤ (ji16)
     rotate_left
     ·rw [if_neg c17] at H
      exact ab H
     rw [if_pos c17] at H
     have c17b0 := eq_true c17
     have c17b1 : decide (0 ≤ (ji16)) = true := decide_eq_true c17
     clear c17
     by_cases c18 : (ji16) ≤ (t225.size : Int)
     rotate_left
     ·rw [if_neg c18] at H
      exact ab H
     rw [if_pos c18] at H
     have c18b0 := eq_true c18
     have c18b1 : decide ((ji16) ≤ (t225.size : Int)) = true := decide_eq_true c18
     clear c18
     obtain ⟨js19, hjs19⟩ : ∃ j_ : ByteArray, (t225.extract ((ji16) : Int).toNat t225.size) = j_ := ⟨_, rfl⟩
     replace H : ((path_domains.f kj5 t224).bind fun t231 => (if js15.toList = ([] : List UInt8) then (path_Parse.j1 kj5 a0 t224 js15 js19 t231 ((t224.length : Int) == 0) false false t224 (⟨#[]⟩ : ByteArray) (⟨#[]⟩ : ByteArray)) else (path_Parse.j1 kj5 a0 t224 js15 js19 t231 false false false t224 (⟨#[]⟩ : ByteArray) (⟨#[]⟩ : ByteArray)))) = some (r1, r2, r3, r4, r5, r6, r7) := by first | (rw [hjs19] at H; exact H) | (simp only [hjs19] at H ⊢; exact H)
     obtain ⟨t231, A200, H⟩ := Option.bind_eq_some_iff.mp H
     replace H : (if js15.toList = ([] : List UInt8) then (path_Parse.j1 kj5 a0 t224 js15 js19 t231 ((t224.length : Int) == 0) false false t224 (⟨#[]⟩ : ByteArray) (⟨#[]⟩ : ByteArray)) else (path_Parse.j1 kj5 a0 t224 js15 js19 t231 false false false t224 (⟨#[]⟩ : ByteArray) (⟨#[]⟩ : ByteArray))) = some (r1, r2, r3, r4, r5, r6, r7) := H
     have A20 := Aside0.mk A200
     clear A200
     have HC21 := Aside0.mk H
     clear H
     try go_wp2
     replace HO_7 := Aside0.mk (Kd.R_drew HO_7.out)
     replace BK221 := Aside0.mk (blk_drew BK221.out)
     replace HB := Aside0.mk (below_drew1 HB.out)
     obtain ⟨Ao23, co23, eo23⟩ := Kd.R_slice HO_7.out
     (first | subst eo23 | (injection eo23 with f1_ f2_ f3_; have f4_ := f1_.symm; have f5_ := f3_.symm; clear f1_ f2_ f3_; subst f4_; subst f5_))
     refine start_ (n := 13) (S := fun w' => True) (ds := []) #[false, false, false, false, false, false, false, false, false, false, false, false, false] kf rfl rfl trivial (fun hHeld => ?_); refine with_tabW path_Parse.tab8 path_Parse.bits8 (fun HT_ HW_ => ?_)
     generalize wc.drew = w22 at HO_7 BK221 HB hHeld ⊢
     refine pure_ (i := 0) (N := some 39) (v := ?_) (a' := ?_) #[true, false, false, false, false, false, false, false, false, false, false, false, false] rfl rfl (any_of HT_.out kf) (fun _ _ _ h => h) (Or.inl ⟨by rfl, ?_⟩) ?_ ?_
     rotate_left
     ·intro w'
      go_simp
      with_reducible rfl
     rotate_left
     ·simp only [Act.put, sA, sB, sC, i64_w, i32_w]
      rfl
     refine pure_ (i := 1) (N := some 40) (v := ?_) (a' := ?_) #[true, true, false, false, false, false, false, false, false, false, false, false, false] rfl rfl (any_of HT_.out kf) (fun _ _ _ h => h) (Or.inl ⟨by rfl, ?_⟩) ?_ ?_
     rotate_left
     ·intro w'
      go_simp
      with_reducible rfl
     rotate_left
     ·simp only [Act.put, sA, sB, sC, i64_w, i32_w]
      rfl
     refine pure_ (i := 2) (N := some 41) (v := ?_) (a' := ?_) #[true, true, true, false, false, false, false, false, false, false, false, false, false] rfl rfl (any_of HT_.out kf) (fun _ _ _ h => h) (Or.inl ⟨by rfl, ?_⟩) ?_ ?_
     rotate_left
     ·intro w'
      go_simp
      with_reducible rfl
     rotate_left
     ·simp only [Act.put, sA, sB, sC, i64_w, i32_w]
      rfl
     refine pure_ (i := 3) (N := some 42) (v := ?_) (a' := ?_) #[true, true, true, true, false, false, false, false, false, false, false, false, false] rfl rfl (any_of HT_.out kf) (fun _ _ _ h => h) (Or.inl ⟨by rfl, ?_⟩) ?_ ?_
     rotate_left
     ·intro w'
      go_simp
      with_reducible rfl
     rotate_left
     ·simp only [Act.put, sA, sB, sC, i64_w, i32_w]
      rfl
     refine pure_ (i := 4) (N := some 43) (v := ?_) (a' := ?_) #[true, true, true, true, true, false, false, false, false, false, false, false, false] rfl rfl (any_of HT_.out kf) (fun _ _ _ h => h) (Or.inl ⟨by rfl, ?_⟩) ?_ ?_
     rotate_left
     ·intro w'
      go_simp
      with_reducible rfl
     rotate_left
     ·simp only [Act.put, sA, sB, sC, i64_w, i32_w]
      rfl
     refine pure_ (i := 5) (N := some 44) (v := ?_) (a' := ?_) #[true, true, true, true, true, true, false, false, false, false, false, false, false] rfl rfl (any_of HT_.out kf) (fun _ _ _ h => h) (Or.inl ⟨by rfl, ?_⟩) ?_ ?_
     rotate_left
     ·intro w'
      go_simp
      with_reducible rfl
     rotate_left
     ·simp only [Act.put, sA, sB, sC, i64_w, i32_w]
      rfl
     refine pure_ (i := 6) (N := some 45) (v := ?_) (a' := ?_) #[true, true, true, true, true, true, true, false, false, false, false, false, false] rfl rfl (any_of HT_.out kf) (fun _ _ _ h => h) (Or.inl ⟨by rfl, ?_⟩) ?_ ?_
     rotate_left
     ·intro w'
      go_simp
      with_reducible rfl
     rotate_left
     ·simp only [Act.put, sA, sB, sC, i64_w, i32_w]
      rfl
     refine pure_ (i := 7) (N := some 46) (v := ?_) (a' := ?_) #[true, true, true, true, true, true, true, true, false, false, false, false, false] rfl rfl (any_of HT_.out kf) (fun _ _ _ h => h) (Or.inl ⟨by rfl, ?_⟩) ?_ ?_
     rotate_left
     ·intro w'
      go_simp
      with_reducible rfl
     rotate_left
     ·simp only [Act.put, sA, sB, sC, i64_w, i32_w]
      rfl
     refine pure_ (i := 8) (N := some 47) (v := ?_) (a' := ?_) #[true, true, true, true, true, true, true, true, true, false, false, false, false] rfl rfl (any_of HT_.out kf) (fun _ _ _ h => h) (Or.inl ⟨by rfl, ?_⟩) ?_ ?_
     rotate_left
     ·intro w'
      go_simp
      with_reducible rfl
     rotate_left
     ·simp only [Act.put, sA, sB, sC, i64_w, i32_w]
      rfl
     refine one_ (i := 9) (N := some 10) #[true, true, true, true, true, true, true, true, true, true, false, false, false] rfl rfl (one_of HT_.out kf) (by decide) (fun K hK => ?_)
     refine box_step ?hg (N := 10) ?hd (cs := #[.bool false, .bool false, .slice none 0 0, .string (⟨#[]⟩ : ByteArray), .string (⟨#[]⟩ : ByteArray)]) (t := 26) ?hr ?_; (case hd => rfl); (case hg => rfl); (case hr => first | (go_simp; done) | (go_simp; rfl))
     intro gb230 hg w24 hbox hb
     replace HO_7 := Aside0.mk (Kd.R_below (kr HO_7.out) hb)
     have BK230 := Aside0.mk (hbox)
     have GW230 := Aside0.mk (gz hg : w.heap.size ≤ gb230)
     have GE230 := Aside0.mk (gz hg : w.heap.size ≤ gb230)
     replace HB := Aside0.mk (below_step bl hb)
     have NB221_230 := Aside0.mk (nl hg BK221.out : gb221 ≠ gb230)
     have NB230_221 := Aside0.mk (ng hg BK221.out : gb230 ≠ gb221)
     replace BK221 := Aside0.mk (kb BK221.out hb)
     clear hb hbox hg
     refine hK.out _ _ trivial (fun hHeld => ?_)
     clear hK K
     refine norm_ (a' := ?_) ?_ ?_
     rotate_left
     ·show Act.put _ (some 10) _ = _
      simp only [Act.put, sA, sB, sC, i64_w, i32_w]
      rfl
     refine one_ (i := 10) (N := none) #[true, true, true, true, true, true, true, true, true, true, true, false, false] rfl rfl (one_of HT_.out kf) (by decide) (fun K hK => ?_)
     have hs25 : w24.cell? ⟨gb230, 0, none⟩ = some (.bool false) := (blk_cell BK230.out 0).trans rfl
     have hfs25 := blk_frozen BK230.out 0
     have hns25_0 := NB221_230.out
     have hms25_0 := NB230_221.out
     have hs26 : w24.cell? ⟨gb230, 1, none⟩ = some (.bool false) := (blk_cell BK230.out 1).trans rfl
     have hfs26 := blk_frozen BK230.out 1
     have hns26_0 := NB221_230.out
     have hms26_0 := NB230_221.out
     have hs27 : w24.cell? ⟨gb230, 2, none⟩ = some (.slice none 0 0) := (blk_cell BK230.out 2).trans rfl
     have hfs27 := blk_frozen BK230.out 2
     have hns27_0 := NB221_230.out
     have hms27_0 := NB230_221.out
     have hs28 : w24.cell? ⟨gb230, 3, none⟩ = some (.string (⟨#[]⟩ : ByteArray)) := (blk_cell BK230.out 3).trans rfl
     have hfs28 := blk_frozen BK230.out 3
     have hns28_0 := NB221_230.out
     have hms28_0 := NB230_221.out
     have hs29 : w24.cell? ⟨gb230, 4, none⟩ = some (.string (⟨#[]⟩ : ByteArray)) := (blk_cell BK230.out 4).trans rfl
     have hfs29 := blk_frozen BK230.out 4
     have hns29_0 := NB221_230.out
     have hms29_0 := NB230_221.out
     refine skip_ (w1 := ?_) (by rfl) rfl ?_ ?_
     rotate_left
     ·go_simp
      rfl
     refine hK.out _ _ trivial (fun hHeld => ?_)
     clear hK K
     refine pure_ (i := 11) (N := some 11) (v := ?_) (a' := ?_) #[true, true, true, true, true, true, true, true, true, true, true, true, false] rfl rfl (any_of HT_.out kf) (fun _ _ _ h => h) (Or.inl ⟨by rfl, ?_⟩) ?_ ?_
     rotate_left
     ·intro w'
      go_simp
      with_reducible rfl
     rotate_left
     ·simp only [Act.put, sA, sB, sC, i64_w, i32_w]
      rfl
     refine pure_ (i := 12) (N := some 12) (v := ?_) (a' := ?_) #[true, true, true, true, true, true, true, true, true, true, true, true, true] rfl rfl (any_of HT_.out kf) (fun _ _ _ h => h) (Or.inl ⟨by rfl, ?_⟩) ?_ ?_
     rotate_left
     ·intro w'
      go_simp
      with_reducible rfl
     rotate_left
     ·simp only [Act.put, sA, sB, sC, i64_w, i32_w]
      rfl
     refine done_ (done_of HT_.out kf) ?_
     go_upto_region 14 with (first | ((with_reducible refine gate_callee (f := 33) rfl ?_); refine goesL_ (some 49) rfl rfl Tryz.func33 kf rfl #[.slice Ao23 t224.length co23] rfl ml ?_; (with_reducible refine (path_domains.calls kj5 _ _ t224 t231 _ ?side1 ?side2 ?side3 A20.out).mono ?_); (case side1 => refine (Kd.R_reads' (e := 9) (base := w.heap.size) (ok := fun k_ => True) (n := t224.length) (c := co23) ?_).2.2; exact (by (with_reducible repeat (first | apply Kd.R_alloc | apply Kd.R_drewN | apply Kd.R_drew)); exact (Kd.R_mono (Kd.R_far (p := ⟨gb230, 4, none⟩) (Kd.R_far (p := ⟨gb230, 3, none⟩) (Kd.R_far (p := ⟨gb230, 2, none⟩) (Kd.R_far (p := ⟨gb230, 1, none⟩) (Kd.R_far (p := ⟨gb230, 0, none⟩) (Kd.R_types HO_7.out BK230.out (by decide)) (fun _ hk => hk.2) (.bool false)) (fun _ hk => hk.2) (.bool false)) (fun _ hk => hk.2) (.slice Ao23 t224.length co23)) (fun _ hk => hk.2) (.string (⟨#[]⟩ : ByteArray))) (fun _ hk => hk.2) (.string (⟨#[]⟩ : ByteArray))) (fun _ h_ => h_.1)))); (case side2 => exact (Kd.R_reads' HO_7.out).2.1); (case side3 => exact Glob.below HG.out bl); rintro e w30 ⟨rfl, hb⟩; refine ⟨_, rfl, ?_⟩; replace HO_7 := Aside0.mk (Kd.R_below (by (with_reducible repeat (first | apply Kd.R_alloc | apply Kd.R_drewN | apply Kd.R_drew)); exact (Kd.R_mono (Kd.R_far (p := ⟨gb230, 4, none⟩) (Kd.R_far (p := ⟨gb230, 3, none⟩) (Kd.R_far (p := ⟨gb230, 2, none⟩) (Kd.R_far (p := ⟨gb230, 1, none⟩) (Kd.R_far (p := ⟨gb230, 0, none⟩) (Kd.R_types HO_7.out BK230.out (by decide)) (fun _ hk => hk.2) (.bool false)) (fun _ hk => hk.2) (.bool false)) (fun _ hk => hk.2) (.slice Ao23 t224.length co23)) (fun _ hk => hk.2) (.string (⟨#[]⟩ : ByteArray))) (fun _ hk => hk.2) (.string (⟨#[]⟩ : ByteArray))) (fun _ h_ => h_.1))) hb); replace BK221 := Aside0.mk (kb BK221.out hb); replace BK230 := Aside0.mk (blk_below (g := gb230) (o := .cells #[.bool false, .bool false, .slice Ao23 t224.length co23, .string (⟨#[]⟩ : ByteArray), .string (⟨#[]⟩ : ByteArray)] 26 (0, 0)) (by (with_reducible repeat (first | refine blk_drewN ?_ _ | refine blk_drew ?_ | refine blk_alloc ?_ _)); refine blk_put (cs := #[.bool false, .bool false, .slice Ao23 t224.length co23, .string (⟨#[]⟩ : ByteArray), .string (⟨#[]⟩ : ByteArray)]) ?_ 4 _ rfl; (with_reducible repeat (first | refine blk_drewN ?_ _ | refine blk_drew ?_ | refine blk_alloc ?_ _)); refine blk_put (cs := #[.bool false, .bool false, .slice Ao23 t224.length co23, .string (⟨#[]⟩ : ByteArray), .string (⟨#[]⟩ : ByteArray)]) ?_ 3 _ rfl; (with_reducible repeat (first | refine blk_drewN ?_ _ | refine blk_drew ?_ | refine blk_alloc ?_ _)); refine blk_put (cs := #[.bool false, .bool false, .slice none 0 0, .string (⟨#[]⟩ : ByteArray), .string (⟨#[]⟩ : ByteArray)]) ?_ 2 _ rfl; (with_reducible repeat (first | refine blk_drewN ?_ _ | refine blk_drew ?_ | refine blk_alloc ?_ _)); refine blk_put (cs := #[.bool false, .bool false, .slice none 0 0, .string (⟨#[]⟩ : ByteArray), .string (⟨#[]⟩ : ByteArray)]) ?_ 1 _ rfl; (with_reducible repeat (first | refine blk_drewN ?_ _ | refine blk_drew ?_ | refine blk_alloc ?_ _)); refine blk_put (cs := #[.bool false, .bool false, .slice none 0 0, .string (⟨#[]⟩ : ByteArray), .string (⟨#[]⟩ : ByteArray)]) ?_ 0 _ rfl; (with_reducible repeat (first | refine blk_drewN ?_ _ | refine blk_drew ?_ | refine blk_alloc ?_ _)); exact BK230.out) hb); replace HB := Aside0.mk (below_step bl hb); (try clear hb); (try clear hb2); (try clear hk); (try clear hi)))
     (try simp only [Act.put, sA, sB, sC])
     go_cut [67] (fun v67 wc => ∃ (kq : Nat) (x67_20 : Bool), v67 = .bool x67_20 ∧ Aside0 (path_Parse.j1 kq a0 t224 js15 js19 t231 x67_20 false false t224 (⟨#[]⟩ : ByteArray) (⟨#[]⟩ : ByteArray) = some (r1, r2, r3, r4, r5, r6, r7)) ∧ Aside0 (kq ≤ kj5) ∧ Aside0 (Kd.R Kd.string 9 wc w.heap.size (fun _ => True) (.slice Ao23 t224.length co23) t224) ∧ Aside0 (Kd.R Kd.string 9 wc w.heap.size (fun _ => True) (.slice Ao23 t224.length co23) t224) ∧ Aside0 (wc.heap[gb221]? = some (.cells #[.bool false, .bool false, (.slice none 0 0), .string (⟨#[]⟩ : ByteArray), .string (⟨#[]⟩ : ByteArray)] 26 (0, 0))) ∧ Aside0 (wc.heap[gb230]? = some (.cells #[.bool false, .bool false, (.slice Ao23 t224.length co23), .string (⟨#[]⟩ : ByteArray), .string (⟨#[]⟩ : ByteArray)] 26 (0, 0))) ∧ Aside0 (Below w.heap.size w wc))
     case first =>
      have H := HC21.out
      clear HC21
      by_cases c31 : js15.toList = ([] : List UInt8)
      ·rw [if_pos c31] at H
       have c31b0 : (js15.toList == ([] : List UInt8)) = true := beq_iff_eq.mpr c31
       have c31b1 : (js15.toList != ([] : List UInt8)) = false := bne_eq_false_iff_eq.mpr c31
       clear c31
       (first | rw [c31b0] | (simp only [i64_w, i32_w]; rw [c31b0]) | skip)
       have H' := Aside0.mk H
       clear H
       go_wp2
       go_meet
       case rel => exact ⟨_, (((t224.length : Int) == 0)), rs, H', ⟨by have := HJ5.out; first | omega | exact Nat.le_refl _⟩, ⟨kr HO_7.out⟩, ⟨kr HO_7.out⟩, ⟨bk BK221.out⟩, ⟨bk BK230.out⟩, ⟨bl⟩⟩
      ·rw [if_neg c31] at H
       have c31b0 : (js15.toList == ([] : List UInt8)) = false := beq_eq_false_iff_ne.mpr c31
       have c31b1 : (js15.toList != ([] : List UInt8)) = true := bne_iff_ne.mpr c31
       (first | rw [c31b0] | (simp only [i64_w, i32_w]; rw [c31b0]) | skip)
       have H' := Aside0.mk H
       clear H
       go_wp2
       go_meet
       case rel => exact ⟨_, (false), rs, H', ⟨by have := HJ5.out; first | omega | exact Nat.le_refl _⟩, ⟨kr HO_7.out⟩, ⟨kr HO_7.out⟩, ⟨bk BK221.out⟩, ⟨bk BK230.out⟩, ⟨bl⟩⟩
     case rest =>
      clear HC21
      try clear c1
      try clear p2
      try clear c3
      try clear p6
      try clear c10
      try clear c11
      try clear c13
      try clear c13b0
      try clear c13b1
      try clear c14
      try clear c14b0
      try clear c14b1
      try clear c17
      try clear c17b0
      try clear c17b1
      try clear c18
      try clear c18b0
      try clear c18b1
      try clear c30
      try clear c31
      try clear c31b0
      try clear c31b1
      try clear hcz12_0
      try clear hcz12_1
      try clear hcz12_2
      try clear hcz12_3
      try clear hcz12_4
      try clear hfz12_0
      try clear hfz12_1
      try clear hfz12_2
      try clear hfz12_3
      try clear hfz12_4
      try clear p2
      obtain ⟨kq, x67_20, rfl, HA, HJ20, HO_7, HO_231002, BK221, BK230, HB⟩ := hcut
      cases kq with
      | zero => exact absurd HA.out (by simp [path_Parse.j1])
      | succ kj20 =>
       have H := HA.out
       clear HA
       simp only [path_Parse.j1] at H
       by_cases c32 : x67_20 = true
       ·subst c32
        replace H : (if t231 = 0 then (if (wrap64 ((a0.size : Int) - (js19.size : Int))) > 256 then (some (false, false, ([] : List ByteArray), (⟨#[]⟩ : ByteArray), (⟨#[]⟩ : ByteArray), (⟨#[]⟩ : ByteArray), 3)) else (some (true, false, t224, (⟨#[]⟩ : ByteArray), (⟨#[]⟩ : ByteArray), js19, 0))) else (some (false, false, ([] : List ByteArray), (⟨#[]⟩ : ByteArray), (⟨#[]⟩ : ByteArray), (⟨#[]⟩ : ByteArray), 3))) = some (r1, r2, r3, r4, r5, r6, r7) := by rw [if_pos rfl] at H; exact H
        by_cases c33 : t231 = 0
        ·rw [if_pos c33] at H
         have c33b0 : (t231 == 0) = true := beq_iff_eq.mpr c33
         have c33b1 : (t231 != 0) = false := bne_eq_false_iff_eq.mpr c33
         clear c33
         by_cases c34 : (wrap64 ((a0.size : Int) - (js19.size : Int))) > 256
         ·rw [if_pos c34] at H
          have c34b0 : decide (256 < (wrap64 ((a0.size : Int) - (js19.size : Int)))) = true := decide_eq_true c34
          clear c34
          simp only [Option.some.injEq, Prod.mk.injEq] at H
          obtain ⟨rfl, rfl, rfl, rfl, rfl, rfl, rfl⟩ := H
          have hnb35 := NB230_221.out
          have hnc35 := NB221_230.out
          have hcz36_0 := cz BK230.out 0 (.bool false)
          have hcz36_1 := cz BK230.out 1 (.bool false)
          have hcz36_2 := cz BK230.out 2 (.slice Ao23 t224.length co23)
          have hcz36_3 := cz BK230.out 3 (.string (⟨#[]⟩ : ByteArray))
          have hcz36_4 := cz BK230.out 4 (.string (⟨#[]⟩ : ByteArray))
          have hfz36_0 := blk_frozen BK230.out 0
          have hfz36_1 := blk_frozen BK230.out 1
          have hfz36_2 := blk_frozen BK230.out 2
          have hfz36_3 := blk_frozen BK230.out 3
          have hfz36_4 := blk_frozen BK230.out 4
          have hcz37_0 := cz BK221.out 0 (.bool false)
          have hcz37_1 := cz BK221.out 1 (.bool false)
          have hcz37_2 := cz BK221.out 2 (.slice none 0 0)
          have hcz37_3 := cz BK221.out 3 (.string (⟨#[]⟩ : ByteArray))
          have hcz37_4 := cz BK221.out 4 (.string (⟨#[]⟩ : ByteArray))
          have hfz37_0 := blk_frozen BK221.out 0
          have hfz37_1 := blk_frozen BK221.out 1
          have hfz37_2 := blk_frozen BK221.out 2
          have hfz37_3 := blk_frozen BK221.out 3
          have hfz37_4 := blk_frozen BK221.out 4
          go_wp2
          refine bodyPost_ret (results_ctt rfl _ _ gb221 26 #[.bool false, .bool false, .slice none 0 0, .string (⟨#[]⟩ : ByteArray), .string (⟨#[]⟩ : ByteArray)] (0, 0) _ rfl (by (with_reducible repeat (first | refine blk_drewN ?_ _ | refine blk_drew ?_ | refine blk_alloc ?_ _)); refine blk_put (cs := #[.bool false, .bool false, .slice none 0 0, .string (⟨#[]⟩ : ByteArray), .string (⟨#[]⟩ : ByteArray)]) ?_ 4 _ rfl; (with_reducible repeat (first | refine blk_drewN ?_ _ | refine blk_drew ?_ | refine blk_alloc ?_ _)); refine blk_put (cs := #[.bool false, .bool false, .slice none 0 0, .string (⟨#[]⟩ : ByteArray), .string (⟨#[]⟩ : ByteArray)]) ?_ 3 _ rfl; (with_reducible repeat (first | refine blk_drewN ?_ _ | refine blk_drew ?_ | refine blk_alloc ?_ _)); refine blk_put (cs := #[.bool false, .bool false, .slice none 0 0, .string (⟨#[]⟩ : ByteArray), .string (⟨#[]⟩ : ByteArray)]) ?_ 2 _ rfl; (with_reducible repeat (first | refine blk_drewN ?_ _ | refine blk_drew ?_ | refine blk_alloc ?_ _)); refine blk_put (cs := #[.bool false, .bool false, .slice none 0 0, .string (⟨#[]⟩ : ByteArray), .string (⟨#[]⟩ : ByteArray)]) ?_ 1 _ rfl; (with_reducible repeat (first | refine blk_drewN ?_ _ | refine blk_drew ?_ | refine blk_alloc ?_ _)); refine blk_put (cs := #[.bool false, .bool false, .slice none 0 0, .string (⟨#[]⟩ : ByteArray), .string (⟨#[]⟩ : ByteArray)]) ?_ 0 _ rfl; (with_reducible repeat (first | refine blk_drewN ?_ _ | refine blk_drew ?_ | refine blk_alloc ?_ _)); refine blk_far ?_ NB221_230.out _; (with_reducible repeat (first | refine blk_drewN ?_ _ | refine blk_drew ?_ | refine blk_alloc ?_ _)); exact BK221.out) Tryz.underlying26 rfl kf) rfl ?_
          exact ⟨_, by first | rfl | (simp [errW_none, errW_some] <;> rfl) | (simp only [← hji16]; first | rfl | (simp [errW_none, errW_some] <;> rfl)) | (simp [*, errW_none, errW_some] <;> rfl), by first | exact Kd.R_nil _ _ _ _ _ | exact Kd.N_nil _ _ _ _ _ | exact Kd.V_nil _ _ _ _ _ | exact Kd.Q_nil _ _ _ _ _ | exact Kd.S_nil _ _ _ _ _, bl⟩
         ·rw [if_neg c34] at H
          have c34b0 : decide (256 < (wrap64 ((a0.size : Int) - (js19.size : Int)))) = false := decide_eq_false c34
          clear c34
          simp only [Option.some.injEq, Prod.mk.injEq] at H
          obtain ⟨rfl, rfl, rfl, rfl, rfl, rfl, rfl⟩ := H
          have hnb38 := NB230_221.out
          have hnc38 := NB221_230.out
          have hcz39_0 := cz BK230.out 0 (.bool false)
          have hcz39_1 := cz BK230.out 1 (.bool false)
          have hcz39_2 := cz BK230.out 2 (.slice Ao23 t224.length co23)
          have hcz39_3 := cz BK230.out 3 (.string (⟨#[]⟩ : ByteArray))
          have hcz39_4 := cz BK230.out 4 (.string (⟨#[]⟩ : ByteArray))
          have hfz39_0 := blk_frozen BK230.out 0
          have hfz39_1 := blk_frozen BK230.out 1
          have hfz39_2 := blk_frozen BK230.out 2
          have hfz39_3 := blk_frozen BK230.out 3
          have hfz39_4 := blk_frozen BK230.out 4
          have hcz40_0 := cz BK221.out 0 (.bool false)
          have hcz40_1 := cz BK221.out 1 (.bool false)
          have hcz40_2 := cz BK221.out 2 (.slice none 0 0)
          have hcz40_3 := cz BK221.out 3 (.string (⟨#[]⟩ : ByteArray))
          have hcz40_4 := cz BK221.out 4 (.string (⟨#[]⟩ : ByteArray))
          have hfz40_0 := blk_frozen BK221.out 0
          have hfz40_1 := blk_frozen BK221.out 1
          have hfz40_2 := blk_frozen BK221.out 2
          have hfz40_3 := blk_frozen BK221.out 3
          have hfz40_4 := blk_frozen BK221.out 4
          go_wp2
          refine bodyPost_ret (results_ctt rfl _ _ gb221 26 #[.bool true, .bool false, .slice Ao23 t224.length co23, .string (⟨#[]⟩ : ByteArray), .string (⟨#[]⟩ : ByteArray)] (0, 0) _ rfl (by (with_reducible repeat (first | refine blk_drewN ?_ _ | refine blk_drew ?_ | refine blk_alloc ?_ _)); refine blk_put (cs := #[.bool true, .bool false, .slice Ao23 t224.length co23, .string (⟨#[]⟩ : ByteArray), .string (⟨#[]⟩ : ByteArray)]) ?_ 4 _ rfl; (with_reducible repeat (first | refine blk_drewN ?_ _ | refine blk_drew ?_ | refine blk_alloc ?_ _)); refine blk_put (cs := #[.bool true, .bool false, .slice Ao23 t224.length co23, .string (⟨#[]⟩ : ByteArray), .string (⟨#[]⟩ : ByteArray)]) ?_ 3 _ rfl; (with_reducible repeat (first | refine blk_drewN ?_ _ | refine blk_drew ?_ | refine blk_alloc ?_ _)); refine blk_put (cs := #[.bool true, .bool false, .slice none 0 0, .string (⟨#[]⟩ : ByteArray), .string (⟨#[]⟩ : ByteArray)]) ?_ 2 _ rfl; (with_reducible repeat (first | refine blk_drewN ?_ _ | refine blk_drew ?_ | refine blk_alloc ?_ _)); refine blk_put (cs := #[.bool true, .bool false, .slice none 0 0, .string (⟨#[]⟩ : ByteArray), .string (⟨#[]⟩ : ByteArray)]) ?_ 1 _ rfl; (with_reducible repeat (first | refine blk_drewN ?_ _ | refine blk_drew ?_ | refine blk_alloc ?_ _)); refine blk_put (cs := #[.bool false, .bool false, .slice none 0 0, .string (⟨#[]⟩ : ByteArray), .string (⟨#[]⟩ : ByteArray)]) ?_ 0 _ rfl; (with_reducible repeat (first | refine blk_drewN ?_ _ | refine blk_drew ?_ | refine blk_alloc ?_ _)); refine blk_far ?_ NB221_230.out _; (with_reducible repeat (first | refine blk_drewN ?_ _ | refine blk_drew ?_ | refine blk_alloc ?_ _)); exact BK221.out) Tryz.underlying26 rfl kf) rfl ?_
          exact ⟨_, by first | rfl | (simp [errW_none, errW_some] <;> rfl) | (simp only [← hji16]; first | rfl | (simp [errW_none, errW_some] <;> rfl)) | (simp [*, errW_none, errW_some] <;> rfl), by (with_reducible repeat (first | apply Kd.R_alloc | apply Kd.R_drewN | apply Kd.R_drew)); exact Kd.R_mono (Kd.R_far (p := ⟨gb221, 4, none⟩) (Kd.R_far (p := ⟨gb221, 3, none⟩) (Kd.R_far (p := ⟨gb221, 2, none⟩) (Kd.R_far (p := ⟨gb221, 1, none⟩) (Kd.R_far (p := ⟨gb221, 0, none⟩) (Kd.R_far (p := ⟨gb230, 0, none⟩) (Kd.R_types (Kd.R_types HO_231002.out BK230.out (by decide)) BK221.out (by decide)) (fun _ hk => hk.1.2) (.bool true)) (fun _ hk => hk.2) (.bool true)) (fun _ hk => hk.2) (.bool false)) (fun _ hk => hk.2) (.slice Ao23 t224.length co23)) (fun _ hk => hk.2) (.string (⟨#[]⟩ : ByteArray))) (fun _ hk => hk.2) (.string (⟨#[]⟩ : ByteArray))) (fun _ hk => trivial), bl⟩
        ·rw [if_neg c33] at H
         have c33b0 : (t231 == 0) = false := beq_eq_false_iff_ne.mpr c33
         have c33b1 : (t231 != 0) = true := bne_iff_ne.mpr c33
         simp only [Option.some.injEq, Prod.mk.injEq] at H
         obtain ⟨rfl, rfl, rfl, rfl, rfl, rfl, rfl⟩ := H
         have hnb41 := NB230_221.out
         have hnc41 := NB221_230.out
         have hcz42_0 := cz BK230.out 0 (.bool false)
         have hcz42_1 := cz BK230.out 1 (.bool false)
         have hcz42_2 := cz BK230.out 2 (.slice Ao23 t224.length co23)
         have hcz42_3 := cz BK230.out 3 (.string (⟨#[]⟩ : ByteArray))
         have hcz42_4 := cz BK230.out 4 (.string (⟨#[]⟩ : ByteArray))
         have hfz42_0 := blk_frozen BK230.out 0
         have hfz42_1 := blk_frozen BK230.out 1
         have hfz42_2 := blk_frozen BK230.out 2
         have hfz42_3 := blk_frozen BK230.out 3
         have hfz42_4 := blk_frozen BK230.out 4
         have hcz43_0 := cz BK221.out 0 (.bool false)
         have hcz43_1 := cz BK221.out 1 (.bool false)
         have hcz43_2 := cz BK221.out 2 (.slice none 0 0)
         have hcz43_3 := cz BK221.out 3 (.string (⟨#[]⟩ : ByteArray))
         have hcz43_4 := cz BK221.out 4 (.string (⟨#[]⟩ : ByteArray))
         have hfz43_0 := blk_frozen BK221.out 0
         have hfz43_1 := blk_frozen BK221.out 1
         have hfz43_2 := blk_frozen BK221.out 2
         have hfz43_3 := blk_frozen BK221.out 3
         have hfz43_4 := blk_frozen BK221.out 4
         go_wp2
         refine bodyPost_ret (results_ctt rfl _ _ gb221 26 #[.bool false, .bool false, .slice none 0 0, .string (⟨#[]⟩ : ByteArray), .string (⟨#[]⟩ : ByteArray)] (0, 0) _ rfl (by (with_reducible repeat (first | refine blk_drewN ?_ _ | refine blk_drew ?_ | refine blk_alloc ?_ _)); refine blk_put (cs := #[.bool false, .bool false, .slice none 0 0, .string (⟨#[]⟩ : ByteArray), .string (⟨#[]⟩ : ByteArray)]) ?_ 4 _ rfl; (with_reducible repeat (first | refine blk_drewN ?_ _ | refine blk_drew ?_ | refine blk_alloc ?_ _)); refine blk_put (cs := #[.bool false, .bool false, .slice none 0 0, .string (⟨#[]⟩ : ByteArray), .string (⟨#[]⟩ : ByteArray)]) ?_ 3 _ rfl; (with_reducible repeat (first | refine blk_drewN ?_ _ | refine blk_drew ?_ | refine blk_alloc ?_ _)); refine blk_put (cs := #[.bool false, .bool false, .slice none 0 0, .string (⟨#[]⟩ : ByteArray), .string (⟨#[]⟩ : ByteArray)]) ?_ 2 _ rfl; (with_reducible repeat (first | refine blk_drewN ?_ _ | refine blk_drew ?_ | refine blk_alloc ?_ _)); refine blk_put (cs := #[.bool false, .bool false, .slice none 0 0, .string (⟨#[]⟩ : ByteArray), .string (⟨#[]⟩ : ByteArray)]) ?_ 1 _ rfl; (with_reducible repeat (first | refine blk_drewN ?_ _ | refine blk_drew ?_ | refine blk_alloc ?_ _)); refine blk_put (cs := #[.bool false, .bool false, .slice none 0 0, .string (⟨#[]⟩ : ByteArray), .string (⟨#[]⟩ : ByteArray)]) ?_ 0 _ rfl; (with_reducible repeat (first | refine blk_drewN ?_ _ | refine blk_drew ?_ | refine blk_alloc ?_ _)); refine blk_far ?_ NB221_230.out _; (with_reducible repeat (first | refine blk_drewN ?_ _ | refine blk_drew ?_ | refine blk_alloc ?_ _)); exact BK221.out) Tryz.underlying26 rfl kf) rfl ?_
         exact ⟨_, by first | rfl | (simp [errW_none, errW_some] <;> rfl) | (simp only [← hji16]; first | rfl | (simp [errW_none, errW_some] <;> rfl)) | (simp [*, errW_none, errW_some] <;> rfl), by first | exact Kd.R_nil _ _ _ _ _ | exact Kd.N_nil _ _ _ _ _ | exact Kd.V_nil _ _ _ _ _ | exact Kd.Q_nil _ _ _ _ _ | exact Kd.S_nil _ _ _ _ _, bl⟩
       ·replace c32 := Bool.eq_false_iff.mpr c32
        subst c32
        replace H : ((text_Same.f js15 (⟨#[112, 111, 115, 116, 109, 97, 115, 116, 101, 114]⟩ : ByteArray)).bind fun t232 => (if t232 = true then (path_Parse.j2 kj20 a0 js15 js19 t231 ((t224.length : Int) == 0) false false t224 (⟨#[]⟩ : ByteArray) (⟨#[]⟩ : ByteArray)) else (path_Parse.j2 kj20 a0 js15 js19 t231 false false false t224 (⟨#[]⟩ : ByteArray) (⟨#[]⟩ : ByteArray)))) = some (r1, r2, r3, r4, r5, r6, r7) := by rw [if_neg (show ¬ (false = true) by decide)] at H; exact H
        have HC44 := Aside0.mk H
        clear H
        go_upto_region 16 with (fail)
        go_cut [76] (fun v76 wc => ∃ (kq : Nat) (x76_43 : Bool), v76 = .bool x76_43 ∧ Aside0 (path_Parse.j2 kq a0 js15 js19 t231 x76_43 false false t224 (⟨#[]⟩ : ByteArray) (⟨#[]⟩ : ByteArray) = some (r1, r2, r3, r4, r5, r6, r7)) ∧ Aside0 (kq ≤ kj20) ∧ Aside0 (Kd.R Kd.string 9 wc w.heap.size (fun _ => True) (.slice Ao23 t224.length co23) t224) ∧ Aside0 (wc.heap[gb221]? = some (.cells #[.bool false, .bool false, (.slice none 0 0), .string (⟨#[]⟩ : ByteArray), .string (⟨#[]⟩ : ByteArray)] 26 (0, 0))) ∧ Aside0 (wc.heap[gb230]? = some (.cells #[.bool false, .bool false, (.slice Ao23 t224.length co23), .string (⟨#[]⟩ : ByteArray), .string (⟨#[]⟩ : ByteArray)] 26 (0, 0))) ∧ Aside0 (Below w.heap.size w wc))
        case first =>
         have H := HC44.out
         clear HC44
         obtain ⟨t232, A450, H⟩ := Option.bind_eq_some_iff.mp H
         replace H : (if t232 = true then (path_Parse.j2 kj20 a0 js15 js19 t231 ((t224.length : Int) == 0) false false t224 (⟨#[]⟩ : ByteArray) (⟨#[]⟩ : ByteArray)) else (path_Parse.j2 kj20 a0 js15 js19 t231 false false false t224 (⟨#[]⟩ : ByteArray) (⟨#[]⟩ : ByteArray))) = some (r1, r2, r3, r4, r5, r6, r7) := H
         have A45 := Aside0.mk A450
         clear A450
         by_cases c46 : t232 = true
         ·subst c46
          replace H : (path_Parse.j2 kj20 a0 js15 js19 t231 ((t224.length : Int) == 0) false false t224 (⟨#[]⟩ : ByteArray) (⟨#[]⟩ : ByteArray)) = some (r1, r2, r3, r4, r5, r6, r7) := by rw [if_pos rfl] at H; exact H
          have H' := Aside0.mk H
          clear H
          go_wp2_with (first | ((with_reducible refine gate_callee (f := 34) rfl ?_); refine goesL_ (some 78) rfl rfl Tryz.func34 kf rfl #[.string js15, .string (⟨#[112, 111, 115, 116, 109, 97, 115, 116, 101, 114]⟩ : ByteArray)] rfl ml ?_; (with_reducible refine (text_Same.calls js15 (⟨#[112, 111, 115, 116, 109, 97, 115, 116, 101, 114]⟩ : ByteArray) true _ A45.out).mono ?_); rintro e w47 ⟨rfl, hb⟩; refine ⟨_, rfl, ?_⟩; replace HO_7 := Aside0.mk (Kd.R_below (kr HO_7.out) hb); replace HO_231002 := Aside0.mk (Kd.R_below (kr HO_231002.out) hb); replace BK221 := Aside0.mk (kb BK221.out hb); replace BK230 := Aside0.mk (kb BK230.out hb); replace HB := Aside0.mk (below_step bl hb); (try clear hb); (try clear hb2); (try clear hk); (try clear hi)))
          go_meet
          case rel => exact ⟨_, (((t224.length : Int) == 0)), rs, H', ⟨by have := HJ5.out; have := HJ20.out; first | omega | exact Nat.le_refl _⟩, ⟨kr HO_231002.out⟩, ⟨bk BK221.out⟩, ⟨bk BK230.out⟩, ⟨bl⟩⟩
         ·replace c46 := Bool.eq_false_iff.mpr c46
          subst c46
          replace H : (path_Parse.j2 kj20 a0 js15 js19 t231 false false false t224 (⟨#[]⟩ : ByteArray) (⟨#[]⟩ : ByteArray)) = some (r1, r2, r3, r4, r5, r6, r7) := by rw [if_neg (show ¬ (false = true) by decide)] at H; exact H
          have H' := Aside0.mk H
          clear H
          go_wp2_with (first | ((with_reducible refine gate_callee (f := 34) rfl ?_); refine goesL_ (some 78) rfl rfl Tryz.func34 kf rfl #[.string js15, .string (⟨#[112, 111, 115, 116, 109, 97, 115, 116, 101, 114]⟩ : ByteArray)] rfl ml ?_; (with_reducible refine (text_Same.calls js15 (⟨#[112, 111, 115, 116, 109, 97, 115, 116, 101, 114]⟩ : ByteArray) false _ A45.out).mono ?_); rintro e w48 ⟨rfl, hb⟩; refine ⟨_, rfl, ?_⟩; replace HO_7 := Aside0.mk (Kd.R_below (kr HO_7.out) hb); replace HO_231002 := Aside0.mk (Kd.R_below (kr HO_231002.out) hb); replace BK221 := Aside0.mk (kb BK221.out hb); replace BK230 := Aside0.mk (kb BK230.out hb); replace HB := Aside0.mk (below_step bl hb); (try clear hb); (try clear hb2); (try clear hk); (try clear hi)))
          go_meet
          case rel => exact ⟨_, (false), rs, H', ⟨by have := HJ5.out; have := HJ20.out; first | omega | exact Nat.le_refl _⟩, ⟨kr HO_231002.out⟩, ⟨bk BK221.out⟩, ⟨bk BK230.out⟩, ⟨bl⟩⟩
        case rest =>
         clear HC44
         try clear c1
         try clear p2
         try clear c3
         try clear c4
         try clear p6
         try clear c10
         try clear c11
         try clear c13
         try clear c13b0
         try clear c13b1
         try clear c14
         try clear c14b0
         try clear c14b1
         try clear c17
         try clear c17b0
         try clear c17b1
         try clear c18
         try clear c18b0
         try clear c18b1
         try clear c30
         try clear c31
         try clear c31b0
         try clear c31b1
         try clear c32
         try clear c33
         try clear c33b0
         try clear c33b1
         try clear c34
         try clear c34b0
         try clear c35
         try clear c38
         try clear c41
         try clear c46
         try clear hcz12_0
         try clear hcz12_1
         try clear hcz12_2
         try clear hcz12_3
         try clear hcz12_4
         try clear hcz36_0
         try clear hcz36_1
         try clear hcz36_2
         try clear hcz36_3
         try clear hcz36_4
         try clear hcz37_0
         try clear hcz37_1
         try clear hcz37_2
         try clear hcz37_3
         try clear hcz37_4
         try clear hcz39_0
         try clear hcz39_1
         try clear hcz39_2
         try clear hcz39_3
         try clear hcz39_4
         try clear hcz40_0
         try clear hcz40_1
         try clear hcz40_2
         try clear hcz40_3
         try clear hcz40_4
         try clear hcz42_0
         try clear hcz42_1
         try clear hcz42_2
         try clear hcz42_3
         try clear hcz42_4
         try clear hcz43_0
         try clear hcz43_1
         try clear hcz43_2
         try clear hcz43_3
         try clear hcz43_4
         try clear hfz12_0
         try clear hfz12_1
         try clear hfz12_2
         try clear hfz12_3
         try clear hfz12_4
         try clear hfz36_0
         try clear hfz36_1
         try clear hfz36_2
         try clear hfz36_3
         try clear hfz36_4
         try clear hfz37_0
         try clear hfz37_1
         try clear hfz37_2
         try clear hfz37_3
         try clear hfz37_4
         try clear hfz39_0
         try clear hfz39_1
         try clear hfz39_2
         try clear hfz39_3
         try clear hfz39_4
         try clear hfz40_0
         try clear hfz40_1
         try clear hfz40_2
         try clear hfz40_3
         try clear hfz40_4
         try clear hfz42_0
         try clear hfz42_1
         try clear hfz42_2
         try clear hfz42_3
         try clear hfz42_4
         try clear hfz43_0
         try clear hfz43_1
         try clear hfz43_2
         try clear hfz43_3
         try clear hfz43_4
         try clear p2
         try clear p6
         obtain ⟨kq, x76_43, rfl, HA, HJ43, HO_231002, BK221, BK230, HB⟩ := hcut
         cases kq with
         | zero => exact absurd HA.out (by simp [path_Parse.j2])
         | succ kj43 =>
          have H := HA.out
          clear HA
          simp only [path_Parse.j2] at H
          by_cases c49 : x76_43 = true
          ·subst c49
           replace H : (if t231 = 0 then (if (wrap64 ((a0.size : Int) - (js19.size : Int))) > 256 then (some (false, false, ([] : List ByteArray), (⟨#[]⟩ : ByteArray), (⟨#[]⟩ : ByteArray), (⟨#[]⟩ : ByteArray), 3)) else (some (false, true, t224, (⟨#[]⟩ : ByteArray), (⟨#[]⟩ : ByteArray), js19, 0))) else (some (false, false, ([] : List ByteArray), (⟨#[]⟩ : ByteArray), (⟨#[]⟩ : ByteArray), (⟨#[]⟩ : ByteArray), 3))) = some (r1, r2, r3, r4, r5, r6, r7) := by rw [if_pos rfl] at H; exact H
           by_cases c50 : t231 = 0
           ·rw [if_pos c50] at H
            have c50b0 : (t231 == 0) = true := beq_iff_eq.mpr c50
            have c50b1 : (t231 != 0) = false := bne_eq_false_iff_eq.mpr c50
            clear c50
            by_cases c51 : (wrap64 ((a0.size : Int) - (js19.size : Int))) > 256
            ·rw [if_pos c51] at H
             have c51b0 : decide (256 < (wrap64 ((a0.size : Int) - (js19.size : Int)))) = true := decide_eq_true c51
             clear c51
             simp only [Option.some.injEq, Prod.mk.injEq] at H
             obtain ⟨rfl, rfl, rfl, rfl, rfl, rfl, rfl⟩ := H
             have hnb52 := NB230_221.out
             have hnc52 := NB221_230.out
             have hcz53_0 := cz BK230.out 0 (.bool false)
             have hcz53_1 := cz BK230.out 1 (.bool false)
             have hcz53_2 := cz BK230.out 2 (.slice Ao23 t224.length co23)
             have hcz53_3 := cz BK230.out 3 (.string (⟨#[]⟩ : ByteArray))
             have hcz53_4 := cz BK230.out 4 (.string (⟨#[]⟩ : ByteArray))
             have hfz53_0 := blk_frozen BK230.out 0
             have hfz53_1 := blk_frozen BK230.out 1
             have hfz53_2 := blk_frozen BK230.out 2
             have hfz53_3 := blk_frozen BK230.out 3
             have hfz53_4 := blk_frozen BK230.out 4
             have hcz54_0 := cz BK221.out 0 (.bool false)
             have hcz54_1 := cz BK221.out 1 (.bool false)
             have hcz54_2 := cz BK221.out 2 (.slice none 0 0)
             have hcz54_3 := cz BK221.out 3 (.string (⟨#[]⟩ : ByteArray))
             have hcz54_4 := cz BK221.out 4 (.string (⟨#[]⟩ : ByteArray))
             have hfz54_0 := blk_frozen BK221.out 0
             have hfz54_1 := blk_frozen BK221.out 1
             have hfz54_2 := blk_frozen BK221.out 2
             have hfz54_3 := blk_frozen BK221.out 3
             have hfz54_4 := blk_frozen BK221.out 4
             go_wp2
             refine bodyPost_ret (results_ctt rfl _ _ gb221 26 #[.bool false, .bool false, .slice none 0 0, .string (⟨#[]⟩ : ByteArray), .string (⟨#[]⟩ : ByteArray)] (0, 0) _ rfl (by (with_reducible repeat (first | refine blk_drewN ?_ _ | refine blk_drew ?_ | refine blk_alloc ?_ _)); refine blk_put (cs := #[.bool false, .bool false, .slice none 0 0, .string (⟨#[]⟩ : ByteArray), .string (⟨#[]⟩ : ByteArray)]) ?_ 4 _ rfl; (with_reducible repeat (first | refine blk_drewN ?_ _ | refine blk_drew ?_ | refine blk_alloc ?_ _)); refine blk_put (cs := #[.bool false, .bool false, .slice none 0 0, .string (⟨#[]⟩ : ByteArray), .string (⟨#[]⟩ : ByteArray)]) ?_ 3 _ rfl; (with_reducible repeat (first | refine blk_drewN ?_ _ | refine blk_drew ?_ | refine blk_alloc ?_ _)); refine blk_put (cs := #[.bool false, .bool false, .slice none 0 0, .string (⟨#[]⟩ : ByteArray), .string (⟨#[]⟩ : ByteArray)]) ?_ 2 _ rfl; (with_reducible repeat (first | refine blk_drewN ?_ _ | refine blk_drew ?_ | refine blk_alloc ?_ _)); refine blk_put (cs := #[.bool false, .bool false, .slice none 0 0, .string (⟨#[]⟩ : ByteArray), .string (⟨#[]⟩ : ByteArray)]) ?_ 1 _ rfl; (with_reducible repeat (first | refine blk_drewN ?_ _ | refine blk_drew ?_ | refine blk_alloc ?_ _)); refine blk_put (cs := #[.bool false, .bool false, .slice none 0 0, .string (⟨#[]⟩ : ByteArray), .string (⟨#[]⟩ : ByteArray)]) ?_ 0 _ rfl; (with_reducible repeat (first | refine blk_drewN ?_ _ | refine blk_drew ?_ | refine blk_alloc ?_ _)); refine blk_far ?_ NB221_230.out _; (with_reducible repeat (first | refine blk_drewN ?_ _ | refine blk_drew ?_ | refine blk_alloc ?_ _)); exact BK221.out) Tryz.underlying26 rfl kf) rfl ?_
             exact ⟨_, by first | rfl | (simp [errW_none, errW_some] <;> rfl) | (simp only [← hji16]; first | rfl | (simp [errW_none, errW_some] <;> rfl)) | (simp [*, errW_none, errW_some] <;> rfl), by first | exact Kd.R_nil _ _ _ _ _ | exact Kd.N_nil _ _ _ _ _ | exact Kd.V_nil _ _ _ _ _ | exact Kd.Q_nil _ _ _ _ _ | exact Kd.S_nil _ _ _ _ _, bl⟩
            ·rw [if_neg c51] at H
             have c51b0 : decide (256 < (wrap64 ((a0.size : Int) - (js19.size : Int)))) = false := decide_eq_false c51
             clear c51
             simp only [Option.some.injEq, Prod.mk.injEq] at H
             obtain ⟨rfl, rfl, rfl, rfl, rfl, rfl, rfl⟩ := H
             have hnb55 := NB230_221.out
             have hnc55 := NB221_230.out
             have hcz56_0 := cz BK230.out 0 (.bool false)
             have hcz56_1 := cz BK230.out 1 (.bool false)
             have hcz56_2 := cz BK230.out 2 (.slice Ao23 t224.length co23)
             have hcz56_3 := cz BK230.out 3 (.string (⟨#[]⟩ : ByteArray))
             have hcz56_4 := cz BK230.out 4 (.string (⟨#[]⟩ : ByteArray))
             have hfz56_0 := blk_frozen BK230.out 0
             have hfz56_1 := blk_frozen BK230.out 1
             have hfz56_2 := blk_frozen BK230.out 2
             have hfz56_3 := blk_frozen BK230.out 3
             have hfz56_4 := blk_frozen BK230.out 4
             have hcz57_0 := cz BK221.out 0 (.bool false)
             have hcz57_1 := cz BK221.out 1 (.bool false)
             have hcz57_2 := cz BK221.out 2 (.slice none 0 0)
             have hcz57_3 := cz BK221.out 3 (.string (⟨#[]⟩ : ByteArray))
             have hcz57_4 := cz BK221.out 4 (.string (⟨#[]⟩ : ByteArray))
             have hfz57_0 := blk_frozen BK221.out 0
             have hfz57_1 := blk_frozen BK221.out 1
             have hfz57_2 := blk_frozen BK221.out 2
             have hfz57_3 := blk_frozen BK221.out 3
             have hfz57_4 := blk_frozen BK221.out 4
             go_wp2
             refine bodyPost_ret (results_ctt rfl _ _ gb221 26 #[.bool false, .bool true, .slice Ao23 t224.length co23, .string (⟨#[]⟩ : ByteArray), .string (⟨#[]⟩ : ByteArray)] (0, 0) _ rfl (by (with_reducible repeat (first | refine blk_drewN ?_ _ | refine blk_drew ?_ | refine blk_alloc ?_ _)); refine blk_put (cs := #[.bool false, .bool true, .slice Ao23 t224.length co23, .string (⟨#[]⟩ : ByteArray), .string (⟨#[]⟩ : ByteArray)]) ?_ 4 _ rfl; (with_reducible repeat (first | refine blk_drewN ?_ _ | refine blk_drew ?_ | refine blk_alloc ?_ _)); refine blk_put (cs := #[.bool false, .bool true, .slice Ao23 t224.length co23, .string (⟨#[]⟩ : ByteArray), .string (⟨#[]⟩ : ByteArray)]) ?_ 3 _ rfl; (with_reducible repeat (first | refine blk_drewN ?_ _ | refine blk_drew ?_ | refine blk_alloc ?_ _)); refine blk_put (cs := #[.bool false, .bool true, .slice none 0 0, .string (⟨#[]⟩ : ByteArray), .string (⟨#[]⟩ : ByteArray)]) ?_ 2 _ rfl; (with_reducible repeat (first | refine blk_drewN ?_ _ | refine blk_drew ?_ | refine blk_alloc ?_ _)); refine blk_put (cs := #[.bool false, .bool false, .slice none 0 0, .string (⟨#[]⟩ : ByteArray), .string (⟨#[]⟩ : ByteArray)]) ?_ 1 _ rfl; (with_reducible repeat (first | refine blk_drewN ?_ _ | refine blk_drew ?_ | refine blk_alloc ?_ _)); refine blk_put (cs := #[.bool false, .bool false, .slice none 0 0, .string (⟨#[]⟩ : ByteArray), .string (⟨#[]⟩ : ByteArray)]) ?_ 0 _ rfl; (with_reducible repeat (first | refine blk_drewN ?_ _ | refine blk_drew ?_ | refine blk_alloc ?_ _)); refine blk_far ?_ NB221_230.out _; (with_reducible repeat (first | refine blk_drewN ?_ _ | refine blk_drew ?_ | refine blk_alloc ?_ _)); exact BK221.out) Tryz.underlying26 rfl kf) rfl ?_
             exact ⟨_, by first | rfl | (simp [errW_none, errW_some] <;> rfl) | (simp only [← hji16]; first | rfl | (simp [errW_none, errW_some] <;> rfl)) | (simp [*, errW_none, errW_some] <;> rfl), by (with_reducible repeat (first | apply Kd.R_alloc | apply Kd.R_drewN | apply Kd.R_drew)); exact Kd.R_mono (Kd.R_far (p := ⟨gb221, 4, none⟩) (Kd.R_far (p := ⟨gb221, 3, none⟩) (Kd.R_far (p := ⟨gb221, 2, none⟩) (Kd.R_far (p := ⟨gb221, 1, none⟩) (Kd.R_far (p := ⟨gb221, 0, none⟩) (Kd.R_far (p := ⟨gb230, 1, none⟩) (Kd.R_types (Kd.R_types HO_231002.out BK230.out (by decide)) BK221.out (by decide)) (fun _ hk => hk.1.2) (.bool true)) (fun _ hk => hk.2) (.bool false)) (fun _ hk => hk.2) (.bool true)) (fun _ hk => hk.2) (.slice Ao23 t224.length co23)) (fun _ hk => hk.2) (.string (⟨#[]⟩ : ByteArray))) (fun _ hk => hk.2) (.string (⟨#[]⟩ : ByteArray))) (fun _ hk => trivial), bl⟩
           ·rw [if_neg c50] at H
            have c50b0 : (t231 == 0) = false := beq_eq_false_iff_ne.mpr c50
            have c50b1 : (t231 != 0) = true := bne_iff_ne.mpr c50
            simp only [Option.some.injEq, Prod.mk.injEq] at H
            obtain ⟨rfl, rfl, rfl, rfl, rfl, rfl, rfl⟩ := H
            have hnb58 := NB230_221.out
            have hnc58 := NB221_230.out
            have hcz59_0 := cz BK230.out 0 (.bool false)
            have hcz59_1 := cz BK230.out 1 (.bool false)
            have hcz59_2 := cz BK230.out 2 (.slice Ao23 t224.length co23)
            have hcz59_3 := cz BK230.out 3 (.string (⟨#[]⟩ : ByteArray))
            have hcz59_4 := cz BK230.out 4 (.string (⟨#[]⟩ : ByteArray))
            have hfz59_0 := blk_frozen BK230.out 0
            have hfz59_1 := blk_frozen BK230.out 1
            have hfz59_2 := blk_frozen BK230.out 2
            have hfz59_3 := blk_frozen BK230.out 3
            have hfz59_4 := blk_frozen BK230.out 4
            have hcz60_0 := cz BK221.out 0 (.bool false)
            have hcz60_1 := cz BK221.out 1 (.bool false)
            have hcz60_2 := cz BK221.out 2 (.slice none 0 0)
            have hcz60_3 := cz BK221.out 3 (.string (⟨#[]⟩ : ByteArray))
            have hcz60_4 := cz BK221.out 4 (.string (⟨#[]⟩ : ByteArray))
            have hfz60_0 := blk_frozen BK221.out 0
            have hfz60_1 := blk_frozen BK221.out 1
            have hfz60_2 := blk_frozen BK221.out 2
            have hfz60_3 := blk_frozen BK221.out 3
            have hfz60_4 := blk_frozen BK221.out 4
            go_wp2
            refine bodyPost_ret (results_ctt rfl _ _ gb221 26 #[.bool false, .bool false, .slice none 0 0, .string (⟨#[]⟩ : ByteArray), .string (⟨#[]⟩ : ByteArray)] (0, 0) _ rfl (by (with_reducible repeat (first | refine blk_drewN ?_ _ | refine blk_drew ?_ | refine blk_alloc ?_ _)); refine blk_put (cs := #[.bool false, .bool false, .slice none 0 0, .string (⟨#[]⟩ : ByteArray), .string (⟨#[]⟩ : ByteArray)]) ?_ 4 _ rfl; (with_reducible repeat (first | refine blk_drewN ?_ _ | refine blk_drew ?_ | refine blk_alloc ?_ _)); refine blk_put (cs := #[.bool false, .bool false, .slice none 0 0, .string (⟨#[]⟩ : ByteArray), .string (⟨#[]⟩ : ByteArray)]) ?_ 3 _ rfl; (with_reducible repeat (first | refine blk_drewN ?_ _ | refine blk_drew ?_ | refine blk_alloc ?_ _)); refine blk_put (cs := #[.bool false, .bool false, .slice none 0 0, .string (⟨#[]⟩ : ByteArray), .string (⟨#[]⟩ : ByteArray)]) ?_ 2 _ rfl; (with_reducible repeat (first | refine blk_drewN ?_ _ | refine blk_drew ?_ | refine blk_alloc ?_ _)); refine blk_put (cs := #[.bool false, .bool false, .slice none 0 0, .string (⟨#[]⟩ : ByteArray), .string (⟨#[]⟩ : ByteArray)]) ?_ 1 _ rfl; (with_reducible repeat (first | refine blk_drewN ?_ _ | refine blk_drew ?_ | refine blk_alloc ?_ _)); refine blk_put (cs := #[.bool false, .bool false, .slice none 0 0, .string (⟨#[]⟩ : ByteArray), .string (⟨#[]⟩ : ByteArray)]) ?_ 0 _ rfl; (with_reducible repeat (first | refine blk_drewN ?_ _ | refine blk_drew ?_ | refine blk_alloc ?_ _)); refine blk_far ?_ NB221_230.out _; (with_reducible repeat (first | refine blk_drewN ?_ _ | refine blk_drew ?_ | refine blk_alloc ?_ _)); exact BK221.out) Tryz.underlying26 rfl kf) rfl ?_
            exact ⟨_, by first | rfl | (simp [errW_none, errW_some] <;> rfl) | (simp only [← hji16]; first | rfl | (simp [errW_none, errW_some] <;> rfl)) | (simp [*, errW_none, errW_some] <;> rfl), by first | exact Kd.R_nil _ _ _ _ _ | exact Kd.N_nil _ _ _ _ _ | exact Kd.V_nil _ _ _ _ _ | exact Kd.Q_nil _ _ _ _ _ | exact Kd.S_nil _ _ _ _ _, bl⟩
          ·replace c49 := Bool.eq_false_iff.mpr c49
           subst c49
           replace H : ((addr_Parse.f kj43 js15).bind fun bt233 => (if bt233.2.2 = 5 then (path_Parse.j3 kj43 a0 js19 t231 bt233.2.2 true false false t224 (⟨#[]⟩ : ByteArray) (⟨#[]⟩ : ByteArray) bt233.1 bt233.2.1) else (path_Parse.j3 kj43 a0 js19 t231 bt233.2.2 (t231 == 5) false false t224 (⟨#[]⟩ : ByteArray) (⟨#[]⟩ : ByteArray) bt233.1 bt233.2.1))) = some (r1, r2, r3, r4, r5, r6, r7) := by rw [if_neg (show ¬ (false = true) by decide)] at H; exact H
           obtain ⟨⟨t233, t234, t235⟩, A610, H⟩ := Option.bind_eq_some_iff.mp H
           replace H : (if t235 = 5 then (path_Parse.j3 kj43 a0 js19 t231 t235 true false false t224 (⟨#[]⟩ : ByteArray) (⟨#[]⟩ : ByteArray) t233 t234) else (path_Parse.j3 kj43 a0 js19 t231 t235 (t231 == 5) false false t224 (⟨#[]⟩ : ByteArray) (⟨#[]⟩ : ByteArray) t233 t234)) = some (r1, r2, r3, r4, r5, r6, r7) := H
           have A61 := Aside0.mk A610
           clear A610
           have HC62 := Aside0.mk H
           clear H
           go_upto_region 11 with (first | ((with_reducible refine gate_callee (f := 35) rfl ?_); refine goesL_ (some 52) rfl rfl Tryz.func35 kf rfl #[.string js15] rfl ml ?_; (with_reducible refine (addr_Parse.calls kj43 js15 t233 t234 t235 _ ?side1 A61.out).mono ?_); (case side1 => exact Glob.below HG.out bl); rintro e w63 ⟨rfl, hb⟩; refine ⟨_, rfl, ?_⟩; replace HO_231002 := Aside0.mk (Kd.R_below (kr HO_231002.out) hb); replace BK221 := Aside0.mk (kb BK221.out hb); replace BK230 := Aside0.mk (kb BK230.out hb); replace HB := Aside0.mk (below_step bl hb); (try clear hb); (try clear hb2); (try clear hk); (try clear hi)) | ((with_reducible refine gate_dst (N := 14) rfl ?_); (try (refine gate_guard (by rfl) ?_; dsimp only)); refine box_event ?hg (N := 14) ?hd (cs := #[.string (⟨#[]⟩ : ByteArray), .string (⟨#[]⟩ : ByteArray)]) (t := 24) ?hr ?_; (case hd => rfl); (case hg => rfl); (case hr => first | (go_simp; done) | (go_simp; rfl)); intro gb236 hg w64 hbox hb; replace HO_231002 := Aside0.mk (Kd.R_below (kr HO_231002.out) hb); have BK236 := Aside0.mk (hbox); have GW236 := Aside0.mk (gz hg : w.heap.size ≤ gb236); have GE236 := Aside0.mk (gz hg : w.heap.size ≤ gb236); replace HB := Aside0.mk (below_step bl hb); have NB221_236 := Aside0.mk (nl hg BK221.out : gb221 ≠ gb236); have NB236_221 := Aside0.mk (ng hg BK221.out : gb236 ≠ gb221); replace BK221 := Aside0.mk (kb BK221.out hb); have NB230_236 := Aside0.mk (nl hg BK230.out : gb230 ≠ gb236); have NB236_230 := Aside0.mk (ng hg BK230.out : gb236 ≠ gb230); replace BK230 := Aside0.mk (kb BK230.out hb); clear hb hbox hg; have hnb65 := NB236_221.out; have hnc65 := NB221_236.out; have hnb66 := NB236_230.out; have hnc66 := NB230_236.out; have hcz67_0 := cz BK236.out 0 (.string (⟨#[]⟩ : ByteArray)); have hcz67_1 := cz BK236.out 1 (.string (⟨#[]⟩ : ByteArray)); have hfz67_0 := blk_frozen BK236.out 0; have hfz67_1 := blk_frozen BK236.out 1))
           (try simp only [Act.put, sA, sB, sC])
           go_cut [60] (fun v60 wc => ∃ (kq : Nat) (x60_61 : Bool), v60 = .bool x60_61 ∧ Aside0 (path_Parse.j3 kq a0 js19 t231 t235 x60_61 false false t224 (⟨#[]⟩ : ByteArray) (⟨#[]⟩ : ByteArray) t233 t234 = some (r1, r2, r3, r4, r5, r6, r7)) ∧ Aside0 (kq ≤ kj43) ∧ Aside0 (Kd.R Kd.string 9 wc w.heap.size (fun _ => True) (.slice Ao23 t224.length co23) t224) ∧ Aside0 (wc.heap[gb221]? = some (.cells #[.bool false, .bool false, (.slice none 0 0), .string (⟨#[]⟩ : ByteArray), .string (⟨#[]⟩ : ByteArray)] 26 (0, 0))) ∧ Aside0 (wc.heap[gb230]? = some (.cells #[.bool false, .bool false, (.slice Ao23 t224.length co23), .string (⟨#[]⟩ : ByteArray), .string (⟨#[]⟩ : ByteArray)] 26 (0, 0))) ∧ Aside0 (wc.heap[gb236]? = some (.cells #[.string t233, .string t234] 24 (0, 0))) ∧ Aside0 (Below w.heap.size w wc))
           case first =>
            have H := HC62.out
            clear HC62
            by_cases c68 : t235 = 5
            ·rw [if_pos c68] at H
             have c68b0 : (t235 == 5) = true := beq_iff_eq.mpr c68
             have c68b1 : (t235 != 5) = false := bne_eq_false_iff_eq.mpr c68
             clear c68
             (first | rw [c68b0] | (simp only [i64_w, i32_w]; rw [c68b0]) | skip)
             have H' := Aside0.mk H
             clear H
             go_wp2
             go_meet
             case rel => exact ⟨_, (true), rs, H', ⟨by have := HJ5.out; have := HJ20.out; have := HJ43.out; first | omega | exact Nat.le_refl _⟩, ⟨by (with_reducible repeat (first | apply Kd.R_alloc | apply Kd.R_drewN | apply Kd.R_drew)); exact Kd.R_mono (Kd.R_far (p := ⟨gb236, 1, none⟩) (Kd.R_far (p := ⟨gb236, 0, none⟩) (Kd.R_types HO_231002.out BK236.out (by decide)) (fun _ hk => hk.2) (.string t233)) (fun _ hk => hk.2) (.string t234)) (fun _ hk => trivial)⟩, ⟨bk BK221.out⟩, ⟨bk BK230.out⟩, ⟨by (with_reducible repeat (first | refine blk_drewN ?_ _ | refine blk_drew ?_ | refine blk_alloc ?_ _)); refine blk_put (cs := #[.string t233, .string (⟨#[]⟩ : ByteArray)]) ?_ 1 _ rfl; (with_reducible repeat (first | refine blk_drewN ?_ _ | refine blk_drew ?_ | refine blk_alloc ?_ _)); refine blk_put (cs := #[.string (⟨#[]⟩ : ByteArray), .string (⟨#[]⟩ : ByteArray)]) ?_ 0 _ rfl; (with_reducible repeat (first | refine blk_drewN ?_ _ | refine blk_drew ?_ | refine blk_alloc ?_ _)); exact BK236.out⟩, ⟨bl⟩⟩
            ·rw [if_neg c68] at H
             have c68b0 : (t235 == 5) = false := beq_eq_false_iff_ne.mpr c68
             have c68b1 : (t235 != 5) = true := bne_iff_ne.mpr c68
             (first | rw [c68b0] | (simp only [i64_w, i32_w]; rw [c68b0]) | skip)
             have H' := Aside0.mk H
             clear H
             go_wp2
             go_meet
             case rel => exact ⟨_, ((t231 == 5)), rs, H', ⟨by have := HJ5.out; have := HJ20.out; have := HJ43.out; first | omega | exact Nat.le_refl _⟩, ⟨by (with_reducible repeat (first | apply Kd.R_alloc | apply Kd.R_drewN | apply Kd.R_drew)); exact Kd.R_mono (Kd.R_far (p := ⟨gb236, 1, none⟩) (Kd.R_far (p := ⟨gb236, 0, none⟩) (Kd.R_types HO_231002.out BK236.out (by decide)) (fun _ hk => hk.2) (.string t233)) (fun _ hk => hk.2) (.string t234)) (fun _ hk => trivial)⟩, ⟨bk BK221.out⟩, ⟨bk BK230.out⟩, ⟨by (with_reducible repeat (first | refine blk_drewN ?_ _ | refine blk_drew ?_ | refine blk_alloc ?_ _)); refine blk_put (cs := #[.string t233, .string (⟨#[]⟩ : ByteArray)]) ?_ 1 _ rfl; (with_reducible repeat (first | refine blk_drewN ?_ _ | refine blk_drew ?_ | refine blk_alloc ?_ _)); refine blk_put (cs := #[.string (⟨#[]⟩ : ByteArray), .string (⟨#[]⟩ : ByteArray)]) ?_ 0 _ rfl; (with_reducible repeat (first | refine blk_drewN ?_ _ | refine blk_drew ?_ | refine blk_alloc ?_ _)); exact BK236.out⟩, ⟨bl⟩⟩
           case rest =>
            clear HC62
            try clear c1
            try clear p2
            try clear c3
            try clear c4
            try clear c5
            try clear c6
            try clear p6
            try clear c10
            try clear c11
            try clear c13
            try clear c13b0
            try clear c13b1
            try clear c14
            try clear c14b0
            try clear c14b1
            try clear c17
            try clear c17b0
            try clear c17b1
            try clear c18
            try clear c18b0
            try clear c18b1
            try clear c30
            try clear c31
            try clear c31b0
            try clear c31b1
            try clear c32
            try clear c33
            try clear c33b0
            try clear c33b1
            try clear c34
            try clear c34b0
            try clear c35
            try clear c38
            try clear c41
            try clear c46
            try clear c49
            try clear c50
            try clear c50b0
            try clear c50b1
            try clear c51
            try clear c51b0
            try clear c52
            try clear c55
            try clear c58
            try clear p64
            try clear c65
            try clear c66
            try clear c68
            try clear c68b0
            try clear c68b1
            try clear hcz12_0
            try clear hcz12_1
            try clear hcz12_2
            try clear hcz12_3
            try clear hcz12_4
            try clear hcz36_0
            try clear hcz36_1
            try clear hcz36_2
            try clear hcz36_3
            try clear hcz36_4
            try clear hcz37_0
            try clear hcz37_1
            try clear hcz37_2
            try clear hcz37_3
            try clear hcz37_4
            try clear hcz39_0
            try clear hcz39_1
            try clear hcz39_2
            try clear hcz39_3
            try clear hcz39_4
            try clear hcz40_0
            try clear hcz40_1
            try clear hcz40_2
            try clear hcz40_3
            try clear hcz40_4
            try clear hcz42_0
            try clear hcz42_1
            try clear hcz42_2
            try clear hcz42_3
            try clear hcz42_4
            try clear hcz43_0
            try clear hcz43_1
            try clear hcz43_2
            try clear hcz43_3
            try clear hcz43_4
            try clear hcz53_0
            try clear hcz53_1
            try clear hcz53_2
            try clear hcz53_3
            try clear hcz53_4
            try clear hcz54_0
            try clear hcz54_1
            try clear hcz54_2
            try clear hcz54_3
            try clear hcz54_4
            try clear hcz56_0
            try clear hcz56_1
            try clear hcz56_2
            try clear hcz56_3
            try clear hcz56_4
            try clear hcz57_0
            try clear hcz57_1
            try clear hcz57_2
            try clear hcz57_3
            try clear hcz57_4
            try clear hcz59_0
            try clear hcz59_1
            try clear hcz59_2
            try clear hcz59_3
            try clear hcz59_4
            try clear hcz60_0
            try clear hcz60_1
            try clear hcz60_2
            try clear hcz60_3
            try clear hcz60_4
            try clear hcz67_0
            try clear hcz67_1
            try clear hfz12_0
            try clear hfz12_1
            try clear hfz12_2
            try clear hfz12_3
            try clear hfz12_4
            try clear hfz36_0
            try clear hfz36_1
            try clear hfz36_2
            try clear hfz36_3
            try clear hfz36_4
            try clear hfz37_0
            try clear hfz37_1
            try clear hfz37_2
            try clear hfz37_3
            try clear hfz37_4
            try clear hfz39_0
            try clear hfz39_1
            try clear hfz39_2
            try clear hfz39_3
            try clear hfz39_4
            try clear hfz40_0
            try clear hfz40_1
            try clear hfz40_2
            try clear hfz40_3
            try clear hfz40_4
            try clear hfz42_0
            try clear hfz42_1
            try clear hfz42_2
            try clear hfz42_3
            try clear hfz42_4
            try clear hfz43_0
            try clear hfz43_1
            try clear hfz43_2
            try clear hfz43_3
            try clear hfz43_4
            try clear hfz53_0
            try clear hfz53_1
            try clear hfz53_2
            try clear hfz53_3
            try clear hfz53_4
            try clear hfz54_0
            try clear hfz54_1
            try clear hfz54_2
            try clear hfz54_3
            try clear hfz54_4
            try clear hfz56_0
            try clear hfz56_1
            try clear hfz56_2
            try clear hfz56_3
            try clear hfz56_4
            try clear hfz57_0
            try clear hfz57_1
            try clear hfz57_2
            try clear hfz57_3
            try clear hfz57_4
            try clear hfz59_0
            try clear hfz59_1
            try clear hfz59_2
            try clear hfz59_3
            try clear hfz59_4
            try clear hfz60_0
            try clear hfz60_1
            try clear hfz60_2
            try clear hfz60_3
            try clear hfz60_4
            try clear hfz67_0
            try clear hfz67_1
            try clear p2
            try clear p6
            obtain ⟨kq, x60_61, rfl, HA, HJ61, HO_231002, BK221, BK230, BK236, HB⟩ := hcut
            cases kq with
            | zero => exact absurd HA.out (by simp [path_Parse.j3])
            | succ kj61 =>
             have H := HA.out
             clear HA
             simp only [path_Parse.j3] at H
             by_cases c69 : x60_61 = true
             ·subst c69
              replace H : (some (false, false, ([] : List ByteArray), (⟨#[]⟩ : ByteArray), (⟨#[]⟩ : ByteArray), (⟨#[]⟩ : ByteArray), 5)) = some (r1, r2, r3, r4, r5, r6, r7) := by rw [if_pos rfl] at H; exact H
              simp only [Option.some.injEq, Prod.mk.injEq] at H
              obtain ⟨rfl, rfl, rfl, rfl, rfl, rfl, rfl⟩ := H
              have hnb70 := NB221_230.out
              have hnc70 := NB230_221.out
              have hnb71 := NB221_236.out
              have hnc71 := NB236_221.out
              have hcz72_0 := cz BK221.out 0 (.bool false)
              have hcz72_1 := cz BK221.out 1 (.bool false)
              have hcz72_2 := cz BK221.out 2 (.slice none 0 0)
              have hcz72_3 := cz BK221.out 3 (.string (⟨#[]⟩ : ByteArray))
              have hcz72_4 := cz BK221.out 4 (.string (⟨#[]⟩ : ByteArray))
              have hfz72_0 := blk_frozen BK221.out 0
              have hfz72_1 := blk_frozen BK221.out 1
              have hfz72_2 := blk_frozen BK221.out 2
              have hfz72_3 := blk_frozen BK221.out 3
              have hfz72_4 := blk_frozen BK221.out 4
              go_wp2
              refine bodyPost_ret (results_ctt rfl _ _ gb221 26 #[.bool false, .bool false, .slice none 0 0, .string (⟨#[]⟩ : ByteArray), .string (⟨#[]⟩ : ByteArray)] (0, 0) _ rfl (by (with_reducible repeat (first | refine blk_drewN ?_ _ | refine blk_drew ?_ | refine blk_alloc ?_ _)); refine blk_put (cs := #[.bool false, .bool false, .slice none 0 0, .string (⟨#[]⟩ : ByteArray), .string (⟨#[]⟩ : ByteArray)]) ?_ 4 _ rfl; (with_reducible repeat (first | refine blk_drewN ?_ _ | refine blk_drew ?_ | refine blk_alloc ?_ _)); refine blk_put (cs := #[.bool false, .bool false, .slice none 0 0, .string (⟨#[]⟩ : ByteArray), .string (⟨#[]⟩ : ByteArray)]) ?_ 3 _ rfl; (with_reducible repeat (first | refine blk_drewN ?_ _ | refine blk_drew ?_ | refine blk_alloc ?_ _)); refine blk_put (cs := #[.bool false, .bool false, .slice none 0 0, .string (⟨#[]⟩ : ByteArray), .string (⟨#[]⟩ : ByteArray)]) ?_ 2 _ rfl; (with_reducible repeat (first | refine blk_drewN ?_ _ | refine blk_drew ?_ | refine blk_alloc ?_ _)); refine blk_put (cs := #[.bool false, .bool false, .slice none 0 0, .string (⟨#[]⟩ : ByteArray), .string (⟨#[]⟩ : ByteArray)]) ?_ 1 _ rfl; (with_reducible repeat (first | refine blk_drewN ?_ _ | refine blk_drew ?_ | refine blk_alloc ?_ _)); refine blk_put (cs := #[.bool false, .bool false, .slice none 0 0, .string (⟨#[]⟩ : ByteArray), .string (⟨#[]⟩ : ByteArray)]) ?_ 0 _ rfl; (with_reducible repeat (first | refine blk_drewN ?_ _ | refine blk_drew ?_ | refine blk_alloc ?_ _)); exact BK221.out) Tryz.underlying26 rfl kf) rfl ?_
              exact ⟨_, by first | rfl | (simp [errW_none, errW_some] <;> rfl) | (simp only [← hji16]; first | rfl | (simp [errW_none, errW_some] <;> rfl)) | (simp [*, errW_none, errW_some] <;> rfl), by first | exact Kd.R_nil _ _ _ _ _ | exact Kd.N_nil _ _ _ _ _ | exact Kd.V_nil _ _ _ _ _ | exact Kd.Q_nil _ _ _ _ _ | exact Kd.S_nil _ _ _ _ _, bl⟩
             ·replace c69 := Bool.eq_false_iff.mpr c69
              subst c69
              replace H : (if (mx t231 t235) = 0 then (if (wrap64 ((a0.size : Int) - (js19.size : Int))) > 256 then (some (false, false, ([] : List ByteArray), (⟨#[]⟩ : ByteArray), (⟨#[]⟩ : ByteArray), (⟨#[]⟩ : ByteArray), 3)) else (some (false, false, t224, t233, t234, js19, 0))) else (some (false, false, ([] : List ByteArray), (⟨#[]⟩ : ByteArray), (⟨#[]⟩ : ByteArray), (⟨#[]⟩ : ByteArray), 3))) = some (r1, r2, r3, r4, r5, r6, r7) := by rw [if_neg (show ¬ (false = true) by decide)] at H; exact H
              obtain ⟨ji73, hji73⟩ : ∃ j_ : Int, (mx t231 t235) = j_ := ⟨_, rfl⟩
              replace H : (if (ji73) = 0 then (if (wrap64 ((a0.size : Int) - (js19.size : Int))) > 256 then (some (false, false, ([] : List ByteArray), (⟨#[]⟩ : ByteArray), (⟨#[]⟩ : ByteArray), (⟨#[]⟩ : ByteArray), 3)) else (some (false, false, t224, t233, t234, js19, 0))) else (some (false, false, ([] : List ByteArray), (⟨#[]⟩ : ByteArray), (⟨#[]⟩ : ByteArray), (⟨#[]⟩ : ByteArray), 3))) = some (r1, r2, r3, r4, r5, r6, r7) := by first | (rw [hji73] at H; exact H) | (simp only [hji73] at H ⊢; exact H)
              have hji73_ : (if t231 < t235 then t235 else t231) = ji73 := hji73
              by_cases c74 : (ji73) = 0
              ·rw [if_pos c74] at H
               have c74b0 : ((ji73) == 0) = true := beq_iff_eq.mpr c74
               have c74b1 : ((ji73) != 0) = false := bne_eq_false_iff_eq.mpr c74
               clear c74
               by_cases c75 : (wrap64 ((a0.size : Int) - (js19.size : Int))) > 256
               ·rw [if_pos c75] at H
                have c75b0 : decide (256 < (wrap64 ((a0.size : Int) - (js19.size : Int)))) = true := decide_eq_true c75
                clear c75
                simp only [Option.some.injEq, Prod.mk.injEq] at H
                obtain ⟨rfl, rfl, rfl, rfl, rfl, rfl, rfl⟩ := H
                have hnb76 := NB236_221.out
                have hnc76 := NB221_236.out
                have hnb77 := NB236_230.out
                have hnc77 := NB230_236.out
                have hcz78_0 := cz BK236.out 0 (.string t233)
                have hcz78_1 := cz BK236.out 1 (.string t234)
                have hfz78_0 := blk_frozen BK236.out 0
                have hfz78_1 := blk_frozen BK236.out 1
                have hnb79 := NB230_221.out
                have hnc79 := NB221_230.out
                have hcz80_0 := cz BK230.out 0 (.bool false)
                have hcz80_1 := cz BK230.out 1 (.bool false)
                have hcz80_2 := cz BK230.out 2 (.slice Ao23 t224.length co23)
                have hcz80_3 := cz BK230.out 3 (.string (⟨#[]⟩ : ByteArray))
                have hcz80_4 := cz BK230.out 4 (.string (⟨#[]⟩ : ByteArray))
                have hfz80_0 := blk_frozen BK230.out 0
                have hfz80_1 := blk_frozen BK230.out 1
                have hfz80_2 := blk_frozen BK230.out 2
                have hfz80_3 := blk_frozen BK230.out 3
                have hfz80_4 := blk_frozen BK230.out 4
                have hcz81_0 := cz BK221.out 0 (.bool false)
                have hcz81_1 := cz BK221.out 1 (.bool false)
                have hcz81_2 := cz BK221.out 2 (.slice none 0 0)
                have hcz81_3 := cz BK221.out 3 (.string (⟨#[]⟩ : ByteArray))
                have hcz81_4 := cz BK221.out 4 (.string (⟨#[]⟩ : ByteArray))
                have hfz81_0 := blk_frozen BK221.out 0
                have hfz81_1 := blk_frozen BK221.out 1
                have hfz81_2 := blk_frozen BK221.out 2
                have hfz81_3 := blk_frozen BK221.out 3
                have hfz81_4 := blk_frozen BK221.out 4
                go_wp2
                refine bodyPost_ret (results_ctt rfl _ _ gb221 26 #[.bool false, .bool false, .slice none 0 0, .string (⟨#[]⟩ : ByteArray), .string (⟨#[]⟩ : ByteArray)] (0, 0) _ rfl (by (with_reducible repeat (first | refine blk_drewN ?_ _ | refine blk_drew ?_ | refine blk_alloc ?_ _)); refine blk_put (cs := #[.bool false, .bool false, .slice none 0 0, .string (⟨#[]⟩ : ByteArray), .string (⟨#[]⟩ : ByteArray)]) ?_ 4 _ rfl; (with_reducible repeat (first | refine blk_drewN ?_ _ | refine blk_drew ?_ | refine blk_alloc ?_ _)); refine blk_put (cs := #[.bool false, .bool false, .slice none 0 0, .string (⟨#[]⟩ : ByteArray), .string (⟨#[]⟩ : ByteArray)]) ?_ 3 _ rfl; (with_reducible repeat (first | refine blk_drewN ?_ _ | refine blk_drew ?_ | refine blk_alloc ?_ _)); refine blk_put (cs := #[.bool false, .bool false, .slice none 0 0, .string (⟨#[]⟩ : ByteArray), .string (⟨#[]⟩ : ByteArray)]) ?_ 2 _ rfl; (with_reducible repeat (first | refine blk_drewN ?_ _ | refine blk_drew ?_ | refine blk_alloc ?_ _)); refine blk_put (cs := #[.bool false, .bool false, .slice none 0 0, .string (⟨#[]⟩ : ByteArray), .string (⟨#[]⟩ : ByteArray)]) ?_ 1 _ rfl; (with_reducible repeat (first | refine blk_drewN ?_ _ | refine blk_drew ?_ | refine blk_alloc ?_ _)); refine blk_put (cs := #[.bool false, .bool false, .slice none 0 0, .string (⟨#[]⟩ : ByteArray), .string (⟨#[]⟩ : ByteArray)]) ?_ 0 _ rfl; (with_reducible repeat (first | refine blk_drewN ?_ _ | refine blk_drew ?_ | refine blk_alloc ?_ _)); refine blk_far ?_ NB221_230.out _; (with_reducible repeat (first | refine blk_drewN ?_ _ | refine blk_drew ?_ | refine blk_alloc ?_ _)); refine blk_far ?_ NB221_230.out _; (with_reducible repeat (first | refine blk_drewN ?_ _ | refine blk_drew ?_ | refine blk_alloc ?_ _)); exact BK221.out) Tryz.underlying26 rfl kf) rfl ?_
                exact ⟨_, by first | rfl | (simp [errW_none, errW_some] <;> rfl) | (simp only [← hji16, ← hji73]; first | rfl | (simp [errW_none, errW_some] <;> rfl)) | (simp [*, errW_none, errW_some] <;> rfl), by first | exact Kd.R_nil _ _ _ _ _ | exact Kd.N_nil _ _ _ _ _ | exact Kd.V_nil _ _ _ _ _ | exact Kd.Q_nil _ _ _ _ _ | exact Kd.S_nil _ _ _ _ _, bl⟩
               ·rw [if_neg c75] at H
                have c75b0 : decide (256 < (wrap64 ((a0.size : Int) - (js19.size : Int)))) = false := decide_eq_false c75
                clear c75
                simp only [Option.some.injEq, Prod.mk.injEq] at H
                obtain ⟨rfl, rfl, rfl, rfl, rfl, rfl, rfl⟩ := H
                have hnb82 := NB236_221.out
                have hnc82 := NB221_236.out
                have hnb83 := NB236_230.out
                have hnc83 := NB230_236.out
                have hcz84_0 := cz BK236.out 0 (.string t233)
                have hcz84_1 := cz BK236.out 1 (.string t234)
                have hfz84_0 := blk_frozen BK236.out 0
                have hfz84_1 := blk_frozen BK236.out 1
                have hnb85 := NB230_221.out
                have hnc85 := NB221_230.out
                have hcz86_0 := cz BK230.out 0 (.bool false)
                have hcz86_1 := cz BK230.out 1 (.bool false)
                have hcz86_2 := cz BK230.out 2 (.slice Ao23 t224.length co23)
                have hcz86_3 := cz BK230.out 3 (.string (⟨#[]⟩ : ByteArray))
                have hcz86_4 := cz BK230.out 4 (.string (⟨#[]⟩ : ByteArray))
                have hfz86_0 := blk_frozen BK230.out 0
                have hfz86_1 := blk_frozen BK230.out 1
                have hfz86_2 := blk_frozen BK230.out 2
                have hfz86_3 := blk_frozen BK230.out 3
                have hfz86_4 := blk_frozen BK230.out 4
                have hcz87_0 := cz BK221.out 0 (.bool false)
                have hcz87_1 := cz BK221.out 1 (.bool false)
                have hcz87_2 := cz BK221.out 2 (.slice none 0 0)
                have hcz87_3 := cz BK221.out 3 (.string (⟨#[]⟩ : ByteArray))
                have hcz87_4 := cz BK221.out 4 (.string (⟨#[]⟩ : ByteArray))
                have hfz87_0 := blk_frozen BK221.out 0
                have hfz87_1 := blk_frozen BK221.out 1
                have hfz87_2 := blk_frozen BK221.out 2
                have hfz87_3 := blk_frozen BK221.out 3
                have hfz87_4 := blk_frozen BK221.out 4
                go_wp2
                refine bodyPost_ret (results_ctt rfl _ _ gb221 26 #[.bool false, .bool false, .slice Ao23 t224.length co23, .string t233, .string t234] (0, 0) _ rfl (by (with_reducible repeat (first | refine blk_drewN ?_ _ | refine blk_drew ?_ | refine blk_alloc ?_ _)); refine blk_put (cs := #[.bool false, .bool false, .slice Ao23 t224.length co23, .string t233, .string (⟨#[]⟩ : ByteArray)]) ?_ 4 _ rfl; (with_reducible repeat (first | refine blk_drewN ?_ _ | refine blk_drew ?_ | refine blk_alloc ?_ _)); refine blk_put (cs := #[.bool false, .bool false, .slice Ao23 t224.length co23, .string (⟨#[]⟩ : ByteArray), .string (⟨#[]⟩ : ByteArray)]) ?_ 3 _ rfl; (with_reducible repeat (first | refine blk_drewN ?_ _ | refine blk_drew ?_ | refine blk_alloc ?_ _)); refine blk_put (cs := #[.bool false, .bool false, .slice none 0 0, .string (⟨#[]⟩ : ByteArray), .string (⟨#[]⟩ : ByteArray)]) ?_ 2 _ rfl; (with_reducible repeat (first | refine blk_drewN ?_ _ | refine blk_drew ?_ | refine blk_alloc ?_ _)); refine blk_put (cs := #[.bool false, .bool false, .slice none 0 0, .string (⟨#[]⟩ : ByteArray), .string (⟨#[]⟩ : ByteArray)]) ?_ 1 _ rfl; (with_reducible repeat (first | refine blk_drewN ?_ _ | refine blk_drew ?_ | refine blk_alloc ?_ _)); refine blk_put (cs := #[.bool false, .bool false, .slice none 0 0, .string (⟨#[]⟩ : ByteArray), .string (⟨#[]⟩ : ByteArray)]) ?_ 0 _ rfl; (with_reducible repeat (first | refine blk_drewN ?_ _ | refine blk_drew ?_ | refine blk_alloc ?_ _)); refine blk_far ?_ NB221_230.out _; (with_reducible repeat (first | refine blk_drewN ?_ _ | refine blk_drew ?_ | refine blk_alloc ?_ _)); refine blk_far ?_ NB221_230.out _; (with_reducible repeat (first | refine blk_drewN ?_ _ | refine blk_drew ?_ | refine blk_alloc ?_ _)); exact BK221.out) Tryz.underlying26 rfl kf) rfl ?_
                exact ⟨_, by first | rfl | (simp [errW_none, errW_some] <;> rfl) | (simp only [← hji16, ← hji73]; first | rfl | (simp [errW_none, errW_some] <;> rfl)) | (simp [*, errW_none, errW_some] <;> rfl), by (with_reducible repeat (first | apply Kd.R_alloc | apply Kd.R_drewN | apply Kd.R_drew)); exact Kd.R_mono (Kd.R_far (p := ⟨gb221, 4, none⟩) (Kd.R_far (p := ⟨gb221, 3, none⟩) (Kd.R_far (p := ⟨gb221, 2, none⟩) (Kd.R_far (p := ⟨gb221, 1, none⟩) (Kd.R_far (p := ⟨gb221, 0, none⟩) (Kd.R_far (p := ⟨gb230, 4, none⟩) (Kd.R_far (p := ⟨gb230, 3, none⟩) (Kd.R_types (Kd.R_types HO_231002.out BK230.out (by decide)) BK221.out (by decide)) (fun _ hk => hk.1.2) (.string t233)) (fun _ hk => hk.1.2) (.string t234)) (fun _ hk => hk.2) (.bool false)) (fun _ hk => hk.2) (.bool false)) (fun _ hk => hk.2) (.slice Ao23 t224.length co23)) (fun _ hk => hk.2) (.string t233)) (fun _ hk => hk.2) (.string t234)) (fun _ hk => trivial), bl⟩
              ·rw [if_neg c74] at H
               have c74b0 : ((ji73) == 0) = false := beq_eq_false_iff_ne.mpr c74
               have c74b1 : ((ji73) != 0) = true := bne_iff_ne.mpr c74
               simp only [Option.some.injEq, Prod.mk.injEq] at H
               obtain ⟨rfl, rfl, rfl, rfl, rfl, rfl, rfl⟩ := H
               have hnb88 := NB236_221.out
               have hnc88 := NB221_236.out
               have hnb89 := NB236_230.out
               have hnc89 := NB230_236.out
               have hcz90_0 := cz BK236.out 0 (.string t233)
               have hcz90_1 := cz BK236.out 1 (.string t234)
               have hfz90_0 := blk_frozen BK236.out 0
               have hfz90_1 := blk_frozen BK236.out 1
               have hnb91 := NB230_221.out
               have hnc91 := NB221_230.out
               have hcz92_0 := cz BK230.out 0 (.bool false)
               have hcz92_1 := cz BK230.out 1 (.bool false)
               have hcz92_2 := cz BK230.out 2 (.slice Ao23 t224.length co23)
               have hcz92_3 := cz BK230.out 3 (.string (⟨#[]⟩ : ByteArray))
               have hcz92_4 := cz BK230.out 4 (.string (⟨#[]⟩ : ByteArray))
               have hfz92_0 := blk_frozen BK230.out 0
               have hfz92_1 := blk_frozen BK230.out 1
               have hfz92_2 := blk_frozen BK230.out 2
               have hfz92_3 := blk_frozen BK230.out 3
               have hfz92_4 := blk_frozen BK230.out 4
               have hcz93_0 := cz BK221.out 0 (.bool false)
               have hcz93_1 := cz BK221.out 1 (.bool false)
               have hcz93_2 := cz BK221.out 2 (.slice none 0 0)
               have hcz93_3 := cz BK221.out 3 (.string (⟨#[]⟩ : ByteArray))
               have hcz93_4 := cz BK221.out 4 (.string (⟨#[]⟩ : ByteArray))
               have hfz93_0 := blk_frozen BK221.out 0
               have hfz93_1 := blk_frozen BK221.out 1
               have hfz93_2 := blk_frozen BK221.out 2
               have hfz93_3 := blk_frozen BK221.out 3
               have hfz93_4 := blk_frozen BK221.out 4
               go_wp2
               refine bodyPost_ret (results_ctt rfl _ _ gb221 26 #[.bool false, .bool false, .slice none 0 0, .string (⟨#[]⟩ : ByteArray), .string (⟨#[]⟩ : ByteArray)] (0, 0) _ rfl (by (with_reducible repeat (first | refine blk_drewN ?_ _ | refine blk_drew ?_ | refine blk_alloc ?_ _)); refine blk_put (cs := #[.bool false, .bool false, .slice none 0 0, .string (⟨#[]⟩ : ByteArray), .string (⟨#[]⟩ : ByteArray)]) ?_ 4 _ rfl; (with_reducible repeat (first | refine blk_drewN ?_ _ | refine blk_drew ?_ | refine blk_alloc ?_ _)); refine blk_put (cs := #[.bool false, .bool false, .slice none 0 0, .string (⟨#[]⟩ : ByteArray), .string (⟨#[]⟩ : ByteArray)]) ?_ 3 _ rfl; (with_reducible repeat (first | refine blk_drewN ?_ _ | refine blk_drew ?_ | refine blk_alloc ?_ _)); refine blk_put (cs := #[.bool false, .bool false, .slice none 0 0, .string (⟨#[]⟩ : ByteArray), .string (⟨#[]⟩ : ByteArray)]) ?_ 2 _ rfl; (with_reducible repeat (first | refine blk_drewN ?_ _ | refine blk_drew ?_ | refine blk_alloc ?_ _)); refine blk_put (cs := #[.bool false, .bool false, .slice none 0 0, .string (⟨#[]⟩ : ByteArray), .string (⟨#[]⟩ : ByteArray)]) ?_ 1 _ rfl; (with_reducible repeat (first | refine blk_drewN ?_ _ | refine blk_drew ?_ | refine blk_alloc ?_ _)); refine blk_put (cs := #[.bool false, .bool false, .slice none 0 0, .string (⟨#[]⟩ : ByteArray), .string (⟨#[]⟩ : ByteArray)]) ?_ 0 _ rfl; (with_reducible repeat (first | refine blk_drewN ?_ _ | refine blk_drew ?_ | refine blk_alloc ?_ _)); refine blk_far ?_ NB221_230.out _; (with_reducible repeat (first | refine blk_drewN ?_ _ | refine blk_drew ?_ | refine blk_alloc ?_ _)); refine blk_far ?_ NB221_230.out _; (with_reducible repeat (first | refine blk_drewN ?_ _ | refine blk_drew ?_ | refine blk_alloc ?_ _)); exact BK221.out) Tryz.underlying26 rfl kf) rfl ?_
               exact ⟨_, by first | rfl | (simp [errW_none, errW_some] <;> rfl) | (simp only [← hji16, ← hji73]; first | rfl | (simp [errW_none, errW_some] <;> rfl)) | (simp [*, errW_none, errW_some] <;> rfl), by first | exact Kd.R_nil _ _ _ _ _ | exact Kd.N_nil _ _ _ _ _ | exact Kd.V_nil _ _ _ _ _ | exact Kd.Q_nil _ _ _ _ _ | exact Kd.S_nil _ _ _ _ _, bl⟩
 ·replace c3 := Bool.eq_false_iff.mpr c3
  subst c3
  replace H : (some (false, false, ([] : List ByteArray), (⟨#[]⟩ : ByteArray), (⟨#[]⟩ : ByteArray), (⟨#[]⟩ : ByteArray), 5)) = some (r1, r2, r3, r4, r5, r6, r7) := by rw [if_neg (show ¬ (false = true) by decide)] at H; exact H
  simp only [Option.some.injEq, Prod.mk.injEq] at H
  obtain ⟨rfl, rfl, rfl, rfl, rfl, rfl, rfl⟩ := H
  go_enter Tryz.func13, Tryz.ntmps13
  go_wp2_with (first | ((with_reducible refine gate_dst (N := 2) rfl ?_); (try (refine gate_guard (by rfl) ?_; dsimp only)); refine box_event ?hg (N := 2) ?hd (cs := #[.bool false, .bool false, .slice none 0 0, .string (⟨#[]⟩ : ByteArray), .string (⟨#[]⟩ : ByteArray)]) (t := 26) ?hr ?_; (case hd => rfl); (case hg => rfl); (case hr => first | (go_simp; done) | (go_simp; rfl)); intro gb221 hg w94 hbox hb; have BK221 := Aside0.mk (hbox); have GW221 := Aside0.mk (gz hg : w.heap.size ≤ gb221); have GE221 := Aside0.mk (gz hg : w.heap.size ≤ gb221); replace HB := Aside0.mk (below_step bl hb); clear hb hbox hg) | ((with_reducible refine gate_callee (f := 30) rfl ?_); refine goesL_ (some 18) rfl rfl Tryz.func30 kf rfl #[.string a0, .string (⟨#[60]⟩ : ByteArray)] rfl ml ?_; (with_reducible refine (strings_CutPrefix.calls a0 (⟨#[60]⟩ : ByteArray) t222 false _ A2.out).mono ?_); rintro e w' ⟨rfl, ⟨nd, rfl⟩⟩; refine ⟨_, rfl, ?_⟩; (try (rw [drewN_self w94]; generalize hq_ : World.drewN w94 _ = w94; have n0_ : Aside0 (w94.heap[gb221]? = some (.cells #[.bool false, .bool false, .slice none 0 0, .string (⟨#[]⟩ : ByteArray), .string (⟨#[]⟩ : ByteArray)] 26 (0, 0))) := ⟨by rw [← hq_]; exact (bk BK221.out)⟩; have n1_ : Aside0 (Below w.heap.size w w94) := ⟨by rw [← hq_]; exact bl⟩; clear BK221 HB hq_; have BK221 := n0_; have HB := n1_; clear n0_ n1_)); have hcz95_0 := cz BK221.out 0 (.bool false); have hcz95_1 := cz BK221.out 1 (.bool false); have hcz95_2 := cz BK221.out 2 (.slice none 0 0); have hcz95_3 := cz BK221.out 3 (.string (⟨#[]⟩ : ByteArray)); have hcz95_4 := cz BK221.out 4 (.string (⟨#[]⟩ : ByteArray)); have hfz95_0 := blk_frozen BK221.out 0; have hfz95_1 := blk_frozen BK221.out 1; have hfz95_2 := blk_frozen BK221.out 2; have hfz95_3 := blk_frozen BK221.out 3; have hfz95_4 := blk_frozen BK221.out 4))
  refine bodyPost_ret (results_ctt rfl _ _ gb221 26 #[.bool false, .bool false, .slice none 0 0, .string (⟨#[]⟩ : ByteArray), .string (⟨#[]⟩ : ByteArray)] (0, 0) _ rfl (by (with_reducible repeat (first | refine blk_drewN ?_ _ | refine blk_drew ?_ | refine blk_alloc ?_ _)); refine blk_put (cs := #[.bool false, .bool false, .slice none 0 0, .string (⟨#[]⟩ : ByteArray), .string (⟨#[]⟩ : ByteArray)]) ?_ 4 _ rfl; (with_reducible repeat (first | refine blk_drewN ?_ _ | refine blk_drew ?_ | refine blk_alloc ?_ _)); refine blk_put (cs := #[.bool false, .bool false, .slice none 0 0, .string (⟨#[]⟩ : ByteArray), .string (⟨#[]⟩ : ByteArray)]) ?_ 3 _ rfl; (with_reducible repeat (first | refine blk_drewN ?_ _ | refine blk_drew ?_ | refine blk_alloc ?_ _)); refine blk_put (cs := #[.bool false, .bool false, .slice none 0 0, .string (⟨#[]⟩ : ByteArray), .string (⟨#[]⟩ : ByteArray)]) ?_ 2 _ rfl; (with_reducible repeat (first | refine blk_drewN ?_ _ | refine blk_drew ?_ | refine blk_alloc ?_ _)); refine blk_put (cs := #[.bool false, .bool false, .slice none 0 0, .string (⟨#[]⟩ : ByteArray), .string (⟨#[]⟩ : ByteArray)]) ?_ 1 _ rfl; (with_reducible repeat (first | refine blk_drewN ?_ _ | refine blk_drew ?_ | refine blk_alloc ?_ _)); refine blk_put (cs := #[.bool false, .bool false, .slice none 0 0, .string (⟨#[]⟩ : ByteArray), .string (⟨#[]⟩ : ByteArray)]) ?_ 0 _ rfl; (with_reducible repeat (first | refine blk_drewN ?_ _ | refine blk_drew ?_ | refine blk_alloc ?_ _)); exact BK221.out) Tryz.underlying26 rfl kf) rfl ?_
  exact ⟨_, by first | rfl | (simp [errW_none, errW_some] <;> rfl) | (simp [*, errW_none, errW_some] <;> rfl), by first | exact Kd.R_nil _ _ _ _ _ | exact Kd.N_nil _ _ _ _ _ | exact Kd.V_nil _ _ _ _ _ | exact Kd.Q_nil _ _ _ _ _ | exact Kd.S_nil _ _ _ _ _, bl⟩

end Go.Proofs.YtgelfnjicglmbaaGreatDoor.Q
end
section
namespace Go.Proofs.YtgelfnjicglmbaaGreatDoor.Q

/-! ### path_letter: function 72 -/
def path_letter.f (a0 : Int) : Option (Bool) := if a0 ≥ 97 then (if a0 ≤ 122 then (some true) else (if a0 ≥ 65 then (if a0 ≤ 90 then (some true) else (if a0 ≥ 48 then (if a0 ≤ 57 then (some true) else (some (a0 == 45))) else (some (a0 == 45)))) else (if a0 ≥ 48 then (if a0 ≤ 57 then (some true) else (some (a0 == 45))) else (some (a0 == 45))))) else (if a0 ≥ 65 then (if a0 ≤ 90 then (some true) else (if a0 ≥ 48 then (if a0 ≤ 57 then (some true) else (some (a0 == 45))) else (some (a0 == 45)))) else (if a0 ≥ 48 then (if a0 ≤ 57 then (some true) else (some (a0 == 45))) else (some (a0 == 45))))
theorem path_letter.calls (a0 : Int) (r : Bool) (w : World) (h : path_letter.f a0 = some r) :
  Calls Tryz.prog 72 #[.int .u8 a0] w fun e w' => e = .returned (.bool r) ∧ Drawn0 w w' := by
 have H : (if a0 ≥ 97 then (if a0 ≤ 122 then (some true) else (if a0 ≥ 65 then (if a0 ≤ 90 then (some true) else (if a0 ≥ 48 then (if a0 ≤ 57 then (some true) else (some (a0 == 45))) else (some (a0 == 45)))) else (if a0 ≥ 48 then (if a0 ≤ 57 then (some true) else (some (a0 == 45))) else (some (a0 == 45))))) else (if a0 ≥ 65 then (if a0 ≤ 90 then (some true) else (if a0 ≥ 48 then (if a0 ≤ 57 then (some true) else (some (a0 == 45))) else (some (a0 == 45)))) else (if a0 ≥ 48 then (if a0 ≤ 57 then (some true) else (some (a0 == 45))) else (some (a0 == 45))))) = some r := h
 clear h
 by_cases c2 : a0 ≥ 97
 ·rw [if_pos c2] at H
  have c2b0 : decide (97 ≤ a0) = true := decide_eq_true c2
  clear c2
  by_cases c3 : a0 ≤ 122
  ·rw [if_pos c3] at H
   have c3b0 : decide (a0 ≤ 122) = true := decide_eq_true c3
   clear c3
   obtain rfl := Option.some.inj H
   go_enter Tryz.func72, Tryz.ntmps72
   go_wp2
   go_ret
   exact ⟨by first | rfl | (simp [bneNil]; done) | (simp; done) | (simp [*]; done), dr⟩
  ·rw [if_neg c3] at H
   have c3b0 : decide (a0 ≤ 122) = false := decide_eq_false c3
   clear c3
   by_cases c4 : a0 ≥ 65
   ·rw [if_pos c4] at H
    have c4b0 : decide (65 ≤ a0) = true := decide_eq_true c4
    clear c4
    by_cases c5 : a0 ≤ 90
    ·rw [if_pos c5] at H
     have c5b0 : decide (a0 ≤ 90) = true := decide_eq_true c5
     clear c5
     obtain rfl := Option.some.inj H
     go_enter Tryz.func72, Tryz.ntmps72
     go_wp2
     go_ret
     exact ⟨by first | rfl | (simp [bneNil]; done) | (simp; done) | (simp [*]; done), dr⟩
    ·rw [if_neg c5] at H
     have c5b0 : decide (a0 ≤ 90) = false := decide_eq_false c5
     clear c5
     by_cases c6 : a0 ≥ 48
     ·rw [if_pos c6] at H
      have c6b0 : decide (48 ≤ a0) = true := decide_eq_true c6
      clear c6
      by_cases c7 : a0 ≤ 57
      ·rw [if_pos c7] at H
       have c7b0 : decide (a0 ≤ 57) = true := decide_eq_true c7
       clear c7
       obtain rfl := Option.some.inj H
       go_enter Tryz.func72, Tryz.ntmps72
       go_wp2
       go_ret
       exact ⟨by first | rfl | (simp [bneNil]; done) | (simp; done) | (simp [*]; done), dr⟩
      ·rw [if_neg c7] at H
       have c7b0 : decide (a0 ≤ 57) = false := decide_eq_false c7
       clear c7
       obtain rfl := Option.some.inj H
       go_enter Tryz.func72, Tryz.ntmps72
       go_wp2
       go_ret
       exact ⟨by first | rfl | (simp [bneNil]; done) | (simp; done) | (simp [*]; done), dr⟩
     ·rw [if_neg c6] at H
      have c6b0 : decide (48 ≤ a0) = false := decide_eq_false c6
      clear c6
      obtain rfl := Option.some.inj H
      go_enter Tryz.func72, Tryz.ntmps72
      go_wp2
      go_ret
      exact ⟨by first | rfl | (simp [bneNil]; done) | (simp; done) | (simp [*]; done), dr⟩
   ·rw [if_neg c4] at H
    have c4b0 : decide (65 ≤ a0) = false := decide_eq_false c4
    clear c4
    by_cases c8 : a0 ≥ 48
    ·rw [if_pos c8] at H
     have c8b0 : decide (48 ≤ a0) = true := decide_eq_true c8
     clear c8
     by_cases c9 : a0 ≤ 57
     ·rw [if_pos c9] at H
      have c9b0 : decide (a0 ≤ 57) = true := decide_eq_true c9
      clear c9
      obtain rfl := Option.some.inj H
      go_enter Tryz.func72, Tryz.ntmps72
      go_wp2
      go_ret
      exact ⟨by first | rfl | (simp [bneNil]; done) | (simp; done) | (simp [*]; done), dr⟩
     ·rw [if_neg c9] at H
      have c9b0 : decide (a0 ≤ 57) = false := decide_eq_false c9
      clear c9
      obtain rfl := Option.some.inj H
      go_enter Tryz.func72, Tryz.ntmps72
      go_wp2
      go_ret
      exact ⟨by first | rfl | (simp [bneNil]; done) | (simp; done) | (simp [*]; done), dr⟩
    ·rw [if_neg c8] at H
     have c8b0 : decide (48 ≤ a0) = false := decide_eq_false c8
     clear c8
     obtain rfl := Option.some.inj H
     go_enter Tryz.func72, Tryz.ntmps72
     go_wp2
     go_ret
     exact ⟨by first | rfl | (simp [bneNil]; done) | (simp; done) | (simp [*]; done), dr⟩
 ·rw [if_neg c2] at H
  have c2b0 : decide (97 ≤ a0) = false := decide_eq_false c2
  clear c2
  by_cases c10 : a0 ≥ 65
  ·rw [if_pos c10] at H
   have c10b0 : decide (65 ≤ a0) = true := decide_eq_true c10
   clear c10
   by_cases c11 : a0 ≤ 90
   ·rw [if_pos c11] at H
    have c11b0 : decide (a0 ≤ 90) = true := decide_eq_true c11
    clear c11
    obtain rfl := Option.some.inj H
    go_enter Tryz.func72, Tryz.ntmps72
    go_wp2
    go_ret
    exact ⟨by first | rfl | (simp [bneNil]; done) | (simp; done) | (simp [*]; done), dr⟩
   ·rw [if_neg c11] at H
    have c11b0 : decide (a0 ≤ 90) = false := decide_eq_false c11
    clear c11
    by_cases c12 : a0 ≥ 48
    ·rw [if_pos c12] at H
     have c12b0 : decide (48 ≤ a0) = true := decide_eq_true c12
     clear c12
     by_cases c13 : a0 ≤ 57
     ·rw [if_pos c13] at H
      have c13b0 : decide (a0 ≤ 57) = true := decide_eq_true c13
      clear c13
      obtain rfl := Option.some.inj H
      go_enter Tryz.func72, Tryz.ntmps72
      go_wp2
      go_ret
      exact ⟨by first | rfl | (simp [bneNil]; done) | (simp; done) | (simp [*]; done), dr⟩
     ·rw [if_neg c13] at H
      have c13b0 : decide (a0 ≤ 57) = false := decide_eq_false c13
      clear c13
      obtain rfl := Option.some.inj H
      go_enter Tryz.func72, Tryz.ntmps72
      go_wp2
      go_ret
      exact ⟨by first | rfl | (simp [bneNil]; done) | (simp; done) | (simp [*]; done), dr⟩
    ·rw [if_neg c12] at H
     have c12b0 : decide (48 ≤ a0) = false := decide_eq_false c12
     clear c12
     obtain rfl := Option.some.inj H
     go_enter Tryz.func72, Tryz.ntmps72
     go_wp2
     go_ret
     exact ⟨by first | rfl | (simp [bneNil]; done) | (simp; done) | (simp [*]; done), dr⟩
  ·rw [if_neg c10] at H
   have c10b0 : decide (65 ≤ a0) = false := decide_eq_false c10
   clear c10
   by_cases c14 : a0 ≥ 48
   ·rw [if_pos c14] at H
    have c14b0 : decide (48 ≤ a0) = true := decide_eq_true c14
    clear c14
    by_cases c15 : a0 ≤ 57
    ·rw [if_pos c15] at H
     have c15b0 : decide (a0 ≤ 57) = true := decide_eq_true c15
     clear c15
     obtain rfl := Option.some.inj H
     go_enter Tryz.func72, Tryz.ntmps72
     go_wp2
     go_ret
     exact ⟨by first | rfl | (simp [bneNil]; done) | (simp; done) | (simp [*]; done), dr⟩
    ·rw [if_neg c15] at H
     have c15b0 : decide (a0 ≤ 57) = false := decide_eq_false c15
     clear c15
     obtain rfl := Option.some.inj H
     go_enter Tryz.func72, Tryz.ntmps72
     go_wp2
     go_ret
     exact ⟨by first | rfl | (simp [bneNil]; done) | (simp; done) | (simp [*]; done), dr⟩
   ·rw [if_neg c14] at H
    have c14b0 : decide (48 ≤ a0) = false := decide_eq_false c14
    clear c14
    obtain rfl := Option.some.inj H
    go_enter Tryz.func72, Tryz.ntmps72
    go_wp2
    go_ret
    exact ⟨by first | rfl | (simp [bneNil]; done) | (simp; done) | (simp [*]; done), dr⟩

/-! ### path_parts_1: function 71 -/
def path_parts_1.f (a0 : Int) : Option (Bool) := (path_letter.f a0).bind fun t237 => (some (!t237))
theorem path_parts_1.calls (a0 : Int) (r : Bool) (w : World) (h : path_parts_1.f a0 = some r) :
  Calls Tryz.prog 71 #[.int .u8 a0] w fun e w' => e = .returned (.bool r) ∧ Drawn0 w w' := by
 have H : ((path_letter.f a0).bind fun t237 => (some (!t237))) = some r := h
 clear h
 obtain ⟨t237, A20, H⟩ := Option.bind_eq_some_iff.mp H
 replace H : (some (!t237)) = some r := H
 have A2 := Aside0.mk A20
 clear A20
 obtain rfl := Option.some.inj H
 go_enter Tryz.func71, Tryz.ntmps71
 go_wp2_with (first | ((with_reducible refine gate_callee (f := 72) rfl ?_); refine goesL_ (some 4) rfl rfl Tryz.func72 kf rfl #[.int .u8 a0] rfl ml ?_; (with_reducible refine (path_letter.calls a0 t237 _ A2.out).mono ?_); rintro e w' ⟨rfl, ⟨nd, rfl⟩⟩; refine ⟨_, rfl, ?_⟩))
 go_ret
 exact ⟨by first | rfl | (simp [bneNil]; done) | (simp; done) | (simp [*]; done), dr⟩

/-! ### path_parts_2: function 73 -/
def path_parts_2.f (a0 : Int) : Option (Bool) := if a0 ≤ 32 then (some true) else (if a0 > 126 then (some true) else (some (a0 == 61)))
theorem path_parts_2.calls (a0 : Int) (r : Bool) (w : World) (h : path_parts_2.f a0 = some r) :
  Calls Tryz.prog 73 #[.int .u8 a0] w fun e w' => e = .returned (.bool r) ∧ Drawn0 w w' := by
 have H : (if a0 ≤ 32 then (some true) else (if a0 > 126 then (some true) else (some (a0 == 61)))) = some r := h
 clear h
 by_cases c2 : a0 ≤ 32
 ·rw [if_pos c2] at H
  have c2b0 : decide (a0 ≤ 32) = true := decide_eq_true c2
  clear c2
  obtain rfl := Option.some.inj H
  go_enter Tryz.func73, Tryz.ntmps73
  go_wp2
  go_ret
  exact ⟨by first | rfl | (simp [bneNil]; done) | (simp; done) | (simp [*]; done), dr⟩
 ·rw [if_neg c2] at H
  have c2b0 : decide (a0 ≤ 32) = false := decide_eq_false c2
  clear c2
  by_cases c3 : a0 > 126
  ·rw [if_pos c3] at H
   have c3b0 : decide (126 < a0) = true := decide_eq_true c3
   clear c3
   obtain rfl := Option.some.inj H
   go_enter Tryz.func73, Tryz.ntmps73
   go_wp2
   go_ret
   exact ⟨by first | rfl | (simp [bneNil]; done) | (simp; done) | (simp [*]; done), dr⟩
  ·rw [if_neg c3] at H
   have c3b0 : decide (126 < a0) = false := decide_eq_false c3
   clear c3
   obtain rfl := Option.some.inj H
   go_enter Tryz.func73, Tryz.ntmps73
   go_wp2
   go_ret
   exact ⟨by first | rfl | (simp [bneNil]; done) | (simp; done) | (simp [*]; done), dr⟩

/-! ### slices_ContainsFunc_byte_byte__path_parts_1: function 74 with function 71 (by hand) -/
def slices_ContainsFunc_byte_byte__path_parts_1.f (l0 : List Int) : Option Bool := anyF (fun x => path_parts_1.f x) l0
theorem slices_ContainsFunc_byte_byte__path_parts_1.idx (l : List Int) (r : Bool) (hl : l.length ≤ 9223372036854775807) (A : Option Addr) (c : Nat) (w : World) (hC : ReadsOf (Value.int .u8) (0 : Int) w A l.length l) (h : slices_ContainsFunc_byte_byte__path_parts_1.f l = some r) :
    Calls Tryz.prog 99 #[.slice A l.length c, .func (.func 71) #[] #[]] w (IdxPost r w) := by
  have HC := Lib.hid hC
  have h' : Aside0 (anyF (fun x => path_parts_1.f x) (l.drop 0) = some r) := ⟨h⟩
  clear hC h
  go_enter Tryz.func99, Tryz.ntmps99
  go_wp2
  go_loopw [8] (fun v8 w' => ∃ j : Nat, v8 = .int .i64 j ∧ j ≤ l.length ∧ Aside0 (anyF (fun x => path_parts_1.f x) (l.drop j) = some r) ∧ Aside0 (Below w.heap.size w w')) (fun v8 _ => l.length - (intOf v8).toNat)
  case atStart => exact ⟨0, rfl, Nat.zero_le _, h', ⟨Below.refl _ _⟩⟩
  case round =>
    obtain ⟨j, rfl, hj, Hall, HB⟩ := hrel
    by_cases hlt : j < l.length
    · obtain ⟨ad, hA, hcell⟩ := (HC.out.below HB.out).at_ (j : Int) (by omega) (by omega)
      rw [Int.toNat_natCast] at hcell
      have ex : rdOf (0 : Int) l (j : Int) = l[j]'hlt := by simp [rdOf, hlt]
      rw [ex] at hcell
      clear ex
      have hd := Hall.out
      rw [List.drop_eq_getElem_cons hlt] at hd
      obtain ⟨b, hb, hrest⟩ := anyF_cons hd
      have Hb := Lib.hid hb
      clear hb hd
      obtain ⟨x, hx⟩ : ∃ x : Int, x = l[j]'hlt := ⟨_, rfl⟩
      rw [← hx] at hcell Hb
      clear hx
      rcases hrest with ⟨rfl, hr⟩ | ⟨rfl, hr⟩
      · have Hr := Lib.hid hr
        clear hr
        subst hA
        go_wp2_with (refine ((path_parts_1.calls x true _ Hb.out)).mono ?_; rintro e w1 ⟨rfl, hd1⟩; have HB1 := Lib.hid hd1.below; clear hd1)
        go_ret
        refine ⟨(j : Int), rfl, ?_, HB.out.trans (HB1.out.mono HB.out.size)⟩
        rw [Hr.out]
        exact decide_eq_true (by omega)
      · have Hr := Aside0.mk hr
        clear hr
        subst hA
        go_wp2_with (refine ((path_parts_1.calls x false _ Hb.out)).mono ?_; rintro e w1 ⟨rfl, hd1⟩; have HB1 := Lib.hid hd1.below; clear hd1)
        go_roundw
        case rel => exact ⟨j + 1, by go_num, hlt, Hr, ⟨HB.out.trans (HB1.out.mono HB.out.size)⟩⟩
        case measure => simp [intOf]; omega
    · go_wp2
      go_ret
      have hd := Hall.out
      rw [List.drop_of_length_le (by omega)] at hd
      have hr : false = r := Option.some.inj hd
      refine ⟨-1, rfl, ?_, HB.out⟩
      rw [← hr]; rfl
theorem slices_ContainsFunc_byte_byte__path_parts_1.calls (A0 : Option Addr) (c0 : Nat) (l0 : List Int) (r : Bool) (w : World) (hr0 : Kd.C (Kd.int .u8) w A0 l0.length l0) (hc0 : l0.length ≤ c0) (h : slices_ContainsFunc_byte_byte__path_parts_1.f l0 = some r) :
    Calls Tryz.prog 74 #[.slice A0 l0.length c0, .func (.func 71) #[] #[]] w fun e w' => e = .returned (.bool r) ∧ Below w.heap.size w w' := by
  have hrd : ReadsOf (Value.int .u8) (0 : Int) w A0 l0.length l0 := Kd.reads_of_C hr0
  have HI := Lib.hid (slices_ContainsFunc_byte_byte__path_parts_1.idx l0 r hrd.2.1 A0 c0 w hrd h)
  clear hrd hr0 h
  go_enter Tryz.func74, Tryz.ntmps74
  go_wp2_with (go_at_call 99; refine HI.out.mono ?_; rintro e w1 ⟨i, rfl, hi, hb⟩; have HB1 := Lib.hid hb; clear hb; have Hi := Lib.hid hi; clear hi)
  go_ret
  exact ⟨by have hi := Hi.out; simp [hi], HB1.out⟩


/-! ### slices_ContainsFunc_byte_byte__path_parts_2: function 74 with function 73 (by hand) -/
def slices_ContainsFunc_byte_byte__path_parts_2.f (l0 : List Int) : Option Bool := anyF (fun x => path_parts_2.f x) l0
theorem slices_ContainsFunc_byte_byte__path_parts_2.idx (l : List Int) (r : Bool) (hl : l.length ≤ 9223372036854775807) (A : Option Addr) (c : Nat) (w : World) (hC : ReadsOf (Value.int .u8) (0 : Int) w A l.length l) (h : slices_ContainsFunc_byte_byte__path_parts_2.f l = some r) :
    Calls Tryz.prog 99 #[.slice A l.length c, .func (.func 73) #[] #[]] w (IdxPost r w) := by
  have HC := Lib.hid hC
  have h' : Aside0 (anyF (fun x => path_parts_2.f x) (l.drop 0) = some r) := ⟨h⟩
  clear hC h
  go_enter Tryz.func99, Tryz.ntmps99
  go_wp2
  go_loopw [8] (fun v8 w' => ∃ j : Nat, v8 = .int .i64 j ∧ j ≤ l.length ∧ Aside0 (anyF (fun x => path_parts_2.f x) (l.drop j) = some r) ∧ Aside0 (Below w.heap.size w w')) (fun v8 _ => l.length - (intOf v8).toNat)
  case atStart => exact ⟨0, rfl, Nat.zero_le _, h', ⟨Below.refl _ _⟩⟩
  case round =>
    obtain ⟨j, rfl, hj, Hall, HB⟩ := hrel
    by_cases hlt : j < l.length
    · obtain ⟨ad, hA, hcell⟩ := (HC.out.below HB.out).at_ (j : Int) (by omega) (by omega)
      rw [Int.toNat_natCast] at hcell
      have ex : rdOf (0 : Int) l (j : Int) = l[j]'hlt := by simp [rdOf, hlt]
      rw [ex] at hcell
      clear ex
      have hd := Hall.out
      rw [List.drop_eq_getElem_cons hlt] at hd
      obtain ⟨b, hb, hrest⟩ := anyF_cons hd
      have Hb := Lib.hid hb
      clear hb hd
      obtain ⟨x, hx⟩ : ∃ x : Int, x = l[j]'hlt := ⟨_, rfl⟩
      rw [← hx] at hcell Hb
      clear hx
      rcases hrest with ⟨rfl, hr⟩ | ⟨rfl, hr⟩
      · have Hr := Lib.hid hr
        clear hr
        subst hA
        go_wp2_with (refine ((path_parts_2.calls x true _ Hb.out)).mono ?_; rintro e w1 ⟨rfl, hd1⟩; have HB1 := Lib.hid hd1.below; clear hd1)
        go_ret
        refine ⟨(j : Int), rfl, ?_, HB.out.trans (HB1.out.mono HB.out.size)⟩
        rw [Hr.out]
        exact decide_eq_true (by omega)
      · have Hr := Aside0.mk hr
        clear hr
        subst hA
        go_wp2_with (refine ((path_parts_2.calls x false _ Hb.out)).mono ?_; rintro e w1 ⟨rfl, hd1⟩; have HB1 := Lib.hid hd1.below; clear hd1)
        go_roundw
        case rel => exact ⟨j + 1, by go_num, hlt, Hr, ⟨HB.out.trans (HB1.out.mono HB.out.size)⟩⟩
        case measure => simp [intOf]; omega
    · go_wp2
      go_ret
      have hd := Hall.out
      rw [List.drop_of_length_le (by omega)] at hd
      have hr : false = r := Option.some.inj hd
      refine ⟨-1, rfl, ?_, HB.out⟩
      rw [← hr]; rfl
theorem slices_ContainsFunc_byte_byte__path_parts_2.calls (A0 : Option Addr) (c0 : Nat) (l0 : List Int) (r : Bool) (w : World) (hr0 : Kd.C (Kd.int .u8) w A0 l0.length l0) (hc0 : l0.length ≤ c0) (h : slices_ContainsFunc_byte_byte__path_parts_2.f l0 = some r) :
    Calls Tryz.prog 74 #[.slice A0 l0.length c0, .func (.func 73) #[] #[]] w fun e w' => e = .returned (.bool r) ∧ Below w.heap.size w w' := by
  have hrd : ReadsOf (Value.int .u8) (0 : Int) w A0 l0.length l0 := Kd.reads_of_C hr0
  have HI := Lib.hid (slices_ContainsFunc_byte_byte__path_parts_2.idx l0 r hrd.2.1 A0 c0 w hrd h)
  clear hrd hr0 h
  go_enter Tryz.func74, Tryz.ntmps74
  go_wp2_with (go_at_call 99; refine HI.out.mono ?_; rintro e w1 ⟨i, rfl, hi, hb⟩; have HB1 := Lib.hid hb; clear hb; have Hi := Lib.hid hi; clear hi)
  go_ret
  exact ⟨by have hi := Hi.out; simp [hi], HB1.out⟩


/-! ### path_parts: function 44 -/
def path_parts.f (a0 : ByteArray) : Option (ByteArray × ByteArray × Bool × Bool) := (strings_Cut.f a0 (⟨#[61]⟩ : ByteArray)).bind fun bt238 => (if bt238.1.toList = ([] : List UInt8) then ((text_Lower.f bt238.1).bind fun t241 => (some (t241, bt238.2.1, bt238.2.2, false))) else (if bt238.1.size ≤ 9223372036854775807 then ((slices_ContainsFunc_byte_byte__path_parts_1.f (Kd.numsOf bt238.1)).bind fun t245 => (if t245 = true then ((text_Lower.f bt238.1).bind fun t246 => (some (t246, bt238.2.1, bt238.2.2, false))) else (if bt238.2.2 = true then (if bt238.2.1.toList = ([] : List UInt8) then ((text_Lower.f bt238.1).bind fun t247 => (some (t247, bt238.2.1, bt238.2.2, false))) else (if bt238.2.1.size ≤ 9223372036854775807 then ((slices_ContainsFunc_byte_byte__path_parts_2.f (Kd.numsOf bt238.2.1)).bind fun t251 => ((text_Lower.f bt238.1).bind fun t252 => (some (t252, bt238.2.1, bt238.2.2, !t251)))) else (none))) else (if bt238.2.1.size ≤ 9223372036854775807 then ((slices_ContainsFunc_byte_byte__path_parts_2.f (Kd.numsOf bt238.2.1)).bind fun t256 => ((text_Lower.f bt238.1).bind fun t257 => (some (t257, bt238.2.1, bt238.2.2, !t256)))) else (none))))) else (none)))
theorem path_parts.calls (a0 : ByteArray) (r1 : ByteArray) (r2 : ByteArray) (r3 : Bool) (r4 : Bool) (w : World) (hG : Glob w) (h : path_parts.f a0 = some (r1, r2, r3, r4)) :
  Calls Tryz.prog 44 #[.string a0] w fun e w' => e = .returned (.tuple #[.string r1, .string r2, .bool r3, .bool r4]) ∧ Below w.heap.size w w' := by
 have HB := Aside0.mk (Below.refl w.heap.size w)
 have HG := Aside0.mk hG
 clear hG
 have H : ((strings_Cut.f a0 (⟨#[61]⟩ : ByteArray)).bind fun bt238 => (if bt238.1.toList = ([] : List UInt8) then ((text_Lower.f bt238.1).bind fun t241 => (some (t241, bt238.2.1, bt238.2.2, false))) else (if bt238.1.size ≤ 9223372036854775807 then ((slices_ContainsFunc_byte_byte__path_parts_1.f (Kd.numsOf bt238.1)).bind fun t245 => (if t245 = true then ((text_Lower.f bt238.1).bind fun t246 => (some (t246, bt238.2.1, bt238.2.2, false))) else (if bt238.2.2 = true then (if bt238.2.1.toList = ([] : List UInt8) then ((text_Lower.f bt238.1).bind fun t247 => (some (t247, bt238.2.1, bt238.2.2, false))) else (if bt238.2.1.size ≤ 9223372036854775807 then ((slices_ContainsFunc_byte_byte__path_parts_2.f (Kd.numsOf bt238.2.1)).bind fun t251 => ((text_Lower.f bt238.1).bind fun t252 => (some (t252, bt238.2.1, bt238.2.2, !t251)))) else (none))) else (if bt238.2.1.size ≤ 9223372036854775807 then ((slices_ContainsFunc_byte_byte__path_parts_2.f (Kd.numsOf bt238.2.1)).bind fun t256 => ((text_Lower.f bt238.1).bind fun t257 => (some (t257, bt238.2.1, bt238.2.2, !t256)))) else (none))))) else (none)))) = some (r1, r2, r3, r4) := h
 clear h
 obtain ⟨⟨t238, t239, t240⟩, A20, H⟩ := Option.bind_eq_some_iff.mp H
 replace H : (if t238.toList = ([] : List UInt8) then ((text_Lower.f t238).bind fun t241 => (some (t241, t239, t240, false))) else (if t238.size ≤ 9223372036854775807 then ((slices_ContainsFunc_byte_byte__path_parts_1.f (Kd.numsOf t238)).bind fun t245 => (if t245 = true then ((text_Lower.f t238).bind fun t246 => (some (t246, t239, t240, false))) else (if t240 = true then (if t239.toList = ([] : List UInt8) then ((text_Lower.f t238).bind fun t247 => (some (t247, t239, t240, false))) else (if t239.size ≤ 9223372036854775807 then ((slices_ContainsFunc_byte_byte__path_parts_2.f (Kd.numsOf t239)).bind fun t251 => ((text_Lower.f t238).bind fun t252 => (some (t252, t239, t240, !t251)))) else (none))) else (if t239.size ≤ 9223372036854775807 then ((slices_ContainsFunc_byte_byte__path_parts_2.f (Kd.numsOf t239)).bind fun t256 => ((text_Lower.f t238).bind fun t257 => (some (t257, t239, t240, !t256)))) else (none))))) else (none))) = some (r1, r2, r3, r4) := H
 have A2 := Aside0.mk A20
 clear A20
 by_cases c3 : t238.toList = ([] : List UInt8)
 ·rw [if_pos c3] at H
  have c3b0 : (t238.toList == ([] : List UInt8)) = true := beq_iff_eq.mpr c3
  have c3b1 : (t238.toList != ([] : List UInt8)) = false := bne_eq_false_iff_eq.mpr c3
  clear c3
  obtain ⟨t241, A40, H⟩ := Option.bind_eq_some_iff.mp H
  replace H : (some (t241, t239, t240, false)) = some (r1, r2, r3, r4) := H
  have A4 := Aside0.mk A40
  clear A40
  simp only [Option.some.injEq, Prod.mk.injEq] at H
  obtain ⟨rfl, rfl, rfl, rfl⟩ := H
  go_enter Tryz.func44, Tryz.ntmps44
  go_wp2_with (first | ((with_reducible refine gate_callee (f := 61) rfl ?_); refine goesL_ (some 10) rfl rfl Tryz.func61 kf rfl #[.string a0, .string (⟨#[61]⟩ : ByteArray)] rfl ml ?_; (with_reducible refine (strings_Cut.calls a0 (⟨#[61]⟩ : ByteArray) t238 t239 t240 _ ?side1 A2.out).mono ?_); (case side1 => exact Glob.below HG.out bl); rintro e w' ⟨rfl, ⟨nd, rfl⟩⟩; refine ⟨_, rfl, ?_⟩) | ((with_reducible refine gate_callee (f := 64) rfl ?_); refine goesL_ (some 39) rfl rfl Tryz.func64 kf rfl #[.string t238] rfl ml ?_; (with_reducible refine (text_Lower.calls t238 t241 _ A4.out).mono ?_); rintro e w5 ⟨rfl, hb⟩; refine ⟨_, rfl, ?_⟩; replace HB := Aside0.mk (below_step bl hb); (try clear hb); (try clear hb2); (try clear hk); (try clear hi)))
  refine bodyPost_ret (results_list (rs := [.tmp 2, .tmp 3, .tmp 4, .tmp 5]) rfl (by simp) (.tmp (.tmp (.tmp (.tmp .nil))))) rfl ?_
  exact ⟨rf, bl⟩
 ·rw [if_neg c3] at H
  have c3b0 : (t238.toList == ([] : List UInt8)) = false := beq_eq_false_iff_ne.mpr c3
  have c3b1 : (t238.toList != ([] : List UInt8)) = true := bne_iff_ne.mpr c3
  by_cases c6 : t238.size ≤ 9223372036854775807
  rotate_left
  ·rw [if_neg c6] at H
   exact ab H
  rw [if_pos c6] at H
  have c6b0 := eq_true c6
  have c6b1 : decide (t238.size ≤ 9223372036854775807) = true := decide_eq_true c6
  try have c6b2 : (9223372036854775807 < t238.size) = False := eq_false (Nat.not_lt.2 c6)
  clear c6
  obtain ⟨y242, hy242⟩ : ∃ y_ : List Int, y_ = (Kd.numsOf t238) := ⟨_, rfl⟩
  replace H : ((slices_ContainsFunc_byte_byte__path_parts_1.f y242).bind fun t245 => (if t245 = true then ((text_Lower.f t238).bind fun t246 => (some (t246, t239, t240, false))) else (if t240 = true then (if t239.toList = ([] : List UInt8) then ((text_Lower.f t238).bind fun t247 => (some (t247, t239, t240, false))) else (if t239.size ≤ 9223372036854775807 then ((slices_ContainsFunc_byte_byte__path_parts_2.f (Kd.numsOf t239)).bind fun t251 => ((text_Lower.f t238).bind fun t252 => (some (t252, t239, t240, !t251)))) else (none))) else (if t239.size ≤ 9223372036854775807 then ((slices_ContainsFunc_byte_byte__path_parts_2.f (Kd.numsOf t239)).bind fun t256 => ((text_Lower.f t238).bind fun t257 => (some (t257, t239, t240, !t256)))) else (none))))) = some (r1, r2, r3, r4) := by first | (rw [hy242]; with_reducible exact H) | (have H2_ := (Option.bind_some _ _).symm.trans H; rw [hy242]; with_reducible exact H2_) | (have H2_ := (Option.bind_some _ _).symm.trans H; with_reducible exact H2_) | with_reducible exact H | (rw [hy242]; exact H) | exact H
  have Ny242 := Aside0.mk hy242
  clear hy242
  obtain ⟨t245, A70, H⟩ := Option.bind_eq_some_iff.mp H
  replace H : (if t245 = true then ((text_Lower.f t238).bind fun t246 => (some (t246, t239, t240, false))) else (if t240 = true then (if t239.toList = ([] : List UInt8) then ((text_Lower.f t238).bind fun t247 => (some (t247, t239, t240, false))) else (if t239.size ≤ 9223372036854775807 then ((slices_ContainsFunc_byte_byte__path_parts_2.f (Kd.numsOf t239)).bind fun t251 => ((text_Lower.f t238).bind fun t252 => (some (t252, t239, t240, !t251)))) else (none))) else (if t239.size ≤ 9223372036854775807 then ((slices_ContainsFunc_byte_byte__path_parts_2.f (Kd.numsOf t239)).bind fun t256 => ((text_Lower.f t238).bind fun t257 => (some (t257, t239, t240, !t256)))) else (none)))) = some (r1, r2, r3, r4) := H
  have A7 := Aside0.mk A70
  clear A70
  by_cases c8 : t245 = true
  ·subst c8
   replace H : ((text_Lower.f t238).bind fun t246 => (some (t246, t239, t240, false))) = some (r1, r2, r3, r4) := by rw [if_pos rfl] at H; exact H
   obtain ⟨t246, A90, H⟩ := Option.bind_eq_some_iff.mp H
   replace H : (some (t246, t239, t240, false)) = some (r1, r2, r3, r4) := H
   have A9 := Aside0.mk A90
   clear A90
   simp only [Option.some.injEq, Prod.mk.injEq] at H
   obtain ⟨rfl, rfl, rfl, rfl⟩ := H
   go_enter Tryz.func44, Tryz.ntmps44
   go_wp2_with (first | ((with_reducible refine gate_callee (f := 61) rfl ?_); refine goesL_ (some 10) rfl rfl Tryz.func61 kf rfl #[.string a0, .string (⟨#[61]⟩ : ByteArray)] rfl ml ?_; (with_reducible refine (strings_Cut.calls a0 (⟨#[61]⟩ : ByteArray) t238 t239 t240 _ ?side1 A2.out).mono ?_); (case side1 => exact Glob.below HG.out bl); rintro e w' ⟨rfl, ⟨nd, rfl⟩⟩; refine ⟨_, rfl, ?_⟩) | ((with_reducible refine gate_dst (N := 18) rfl ?_); (try (refine gate_guard (by rfl) ?_; dsimp only)); refine Kd.B_bytes _ 5 rfl (N := 18) rfl 9 55 _ t238 rfl rfl Tryz.underlying9 Tryz.underlying55 Tryz.underlying5 (ok := fun _ => True) trivial (od) (Below.refl _ _) (Nat.le_refl _) ?_; intro v243 w10 ho11 hb hg_ hnew_; clear hg_ hnew_; (first | rw [← Ny242.out] at ho11 | (simp only [Int.reduceToNat] at ho11; rw [← Ny242.out] at ho11)); have HO244 := Aside0.mk (Kd.B_lower ho11 (below_size bl)); replace HB := Aside0.mk (below_step bl hb); clear hb ho11; obtain ⟨Ao12, co12, eo12⟩ := Kd.B_slice HO244.out; subst eo12) | (go_at_call 74; (with_reducible refine (slices_ContainsFunc_byte_byte__path_parts_1.calls _ _ y242 true _ ?side1 ?side2 A7.out).mono ?_); (case side1 => repeat (first | exact (Kd.B_reads' HO244.out).2.2 | (with_reducible refine Kd.C_alloc ?_ _) | (with_reducible refine Kd.C_drewN ?_ _) | (with_reducible refine Kd.C_drew ?_))); (case side2 => exact (Kd.B_reads' HO244.out).2.1); rintro e w13 ⟨rfl, hb⟩; replace HO244 := Aside0.mk (Kd.B_below (by (with_reducible repeat (first | apply Kd.B_alloc | apply Kd.B_drewN | apply Kd.B_drew)); exact HO244.out) hb); replace HB := Aside0.mk (below_step bl hb); (try clear hb); (try clear hb2); (try clear hk); (try clear hi)) | ((with_reducible refine gate_callee (f := 64) rfl ?_); refine goesL_ (some 39) rfl rfl Tryz.func64 kf rfl #[.string t238] rfl ml ?_; (with_reducible refine (text_Lower.calls t238 t246 _ A9.out).mono ?_); rintro e w14 ⟨rfl, hb⟩; refine ⟨_, rfl, ?_⟩; replace HO244 := Aside0.mk (Kd.B_below (by (with_reducible repeat (first | apply Kd.B_alloc | apply Kd.B_drewN | apply Kd.B_drew)); exact HO244.out) hb); replace HB := Aside0.mk (below_step bl hb); (try clear hb); (try clear hb2); (try clear hk); (try clear hi)))
   refine bodyPost_ret (results_list (rs := [.tmp 2, .tmp 3, .tmp 4, .tmp 5]) rfl (by simp) (.tmp (.tmp (.tmp (.tmp .nil))))) rfl ?_
   exact ⟨rf, bl⟩
  ·replace c8 := Bool.eq_false_iff.mpr c8
   subst c8
   replace H : (if t240 = true then (if t239.toList = ([] : List UInt8) then ((text_Lower.f t238).bind fun t247 => (some (t247, t239, t240, false))) else (if t239.size ≤ 9223372036854775807 then ((slices_ContainsFunc_byte_byte__path_parts_2.f (Kd.numsOf t239)).bind fun t251 => ((text_Lower.f t238).bind fun t252 => (some (t252, t239, t240, !t251)))) else (none))) else (if t239.size ≤ 9223372036854775807 then ((slices_ContainsFunc_byte_byte__path_parts_2.f (Kd.numsOf t239)).bind fun t256 => ((text_Lower.f t238).bind fun t257 => (some (t257, t239, t240, !t256)))) else (none))) = some (r1, r2, r3, r4) := by rw [if_neg (show ¬ (false = true) by decide)] at H; exact H
   by_cases c15 : t240 = true
   ·subst c15
    replace H : (if t239.toList = ([] : List UInt8) then ((text_Lower.f t238).bind fun t247 => (some (t247, t239, true, false))) else (if t239.size ≤ 9223372036854775807 then ((slices_ContainsFunc_byte_byte__path_parts_2.f (Kd.numsOf t239)).bind fun t251 => ((text_Lower.f t238).bind fun t252 => (some (t252, t239, true, !t251)))) else (none))) = some (r1, r2, r3, r4) := by rw [if_pos rfl] at H; exact H
    by_cases c16 : t239.toList = ([] : List UInt8)
    ·rw [if_pos c16] at H
     have c16b0 : (t239.toList == ([] : List UInt8)) = true := beq_iff_eq.mpr c16
     have c16b1 : (t239.toList != ([] : List UInt8)) = false := bne_eq_false_iff_eq.mpr c16
     clear c16
     obtain ⟨t247, A170, H⟩ := Option.bind_eq_some_iff.mp H
     replace H : (some (t247, t239, true, false)) = some (r1, r2, r3, r4) := H
     have A17 := Aside0.mk A170
     clear A170
     simp only [Option.some.injEq, Prod.mk.injEq] at H
     obtain ⟨rfl, rfl, rfl, rfl⟩ := H
     go_enter Tryz.func44, Tryz.ntmps44
     go_wp2_with (first | ((with_reducible refine gate_callee (f := 61) rfl ?_); refine goesL_ (some 10) rfl rfl Tryz.func61 kf rfl #[.string a0, .string (⟨#[61]⟩ : ByteArray)] rfl ml ?_; (with_reducible refine (strings_Cut.calls a0 (⟨#[61]⟩ : ByteArray) t238 t239 true _ ?side1 A2.out).mono ?_); (case side1 => exact Glob.below HG.out bl); rintro e w' ⟨rfl, ⟨nd, rfl⟩⟩; refine ⟨_, rfl, ?_⟩) | ((with_reducible refine gate_dst (N := 18) rfl ?_); (try (refine gate_guard (by rfl) ?_; dsimp only)); refine Kd.B_bytes _ 5 rfl (N := 18) rfl 9 55 _ t238 rfl rfl Tryz.underlying9 Tryz.underlying55 Tryz.underlying5 (ok := fun _ => True) trivial (od) (Below.refl _ _) (Nat.le_refl _) ?_; intro v243 w18 ho19 hb hg_ hnew_; clear hg_ hnew_; (first | rw [← Ny242.out] at ho19 | (simp only [Int.reduceToNat] at ho19; rw [← Ny242.out] at ho19)); have HO244 := Aside0.mk (Kd.B_lower ho19 (below_size bl)); replace HB := Aside0.mk (below_step bl hb); clear hb ho19; obtain ⟨Ao20, co20, eo20⟩ := Kd.B_slice HO244.out; subst eo20) | (go_at_call 74; (with_reducible refine (slices_ContainsFunc_byte_byte__path_parts_1.calls _ _ y242 false _ ?side1 ?side2 A7.out).mono ?_); (case side1 => repeat (first | exact (Kd.B_reads' HO244.out).2.2 | (with_reducible refine Kd.C_alloc ?_ _) | (with_reducible refine Kd.C_drewN ?_ _) | (with_reducible refine Kd.C_drew ?_))); (case side2 => exact (Kd.B_reads' HO244.out).2.1); rintro e w21 ⟨rfl, hb⟩; replace HO244 := Aside0.mk (Kd.B_below (by (with_reducible repeat (first | apply Kd.B_alloc | apply Kd.B_drewN | apply Kd.B_drew)); exact HO244.out) hb); replace HB := Aside0.mk (below_step bl hb); (try clear hb); (try clear hb2); (try clear hk); (try clear hi)) | ((with_reducible refine gate_callee (f := 64) rfl ?_); refine goesL_ (some 39) rfl rfl Tryz.func64 kf rfl #[.string t238] rfl ml ?_; (with_reducible refine (text_Lower.calls t238 t247 _ A17.out).mono ?_); rintro e w22 ⟨rfl, hb⟩; refine ⟨_, rfl, ?_⟩; replace HO244 := Aside0.mk (Kd.B_below (by (with_reducible repeat (first | apply Kd.B_alloc | apply Kd.B_drewN | apply Kd.B_drew)); exact HO244.out) hb); replace HB := Aside0.mk (below_step bl hb); (try clear hb); (try clear hb2); (try clear hk); (try clear hi)))
     refine bodyPost_ret (results_list (rs := [.tmp 2, .tmp 3, .tmp 4, .tmp 5]) rfl (by simp) (.tmp (.tmp (.tmp (.tmp .nil))))) rfl ?_
     exact ⟨rf, bl⟩
    ·rw [if_neg c16] at H
     have c16b0 : (t239.toList == ([] : List UInt8)) = false := beq_eq_false_iff_ne.mpr c16
     have c16b1 : (t239.toList != ([] : List UInt8)) = true := bne_iff_ne.mpr c16
     by_cases c23 : t239.size ≤ 9223372036854775807
     rotate_left
     ·rw [if_neg c23] at H
      exact ab H
     rw [if_pos c23] at H
     have c23b0 := eq_true c23
     have c23b1 : decide (t239.size ≤ 9223372036854775807) = true := decide_eq_true c23
     try have c23b2 : (9223372036854775807 < t239.size) = False := eq_false (Nat.not_lt.2 c23)
     clear c23
     obtain ⟨y248, hy248⟩ : ∃ y_ : List Int, y_ = (Kd.numsOf t239) := ⟨_, rfl⟩
     replace H : ((slices_ContainsFunc_byte_byte__path_parts_2.f y248).bind fun t251 => ((text_Lower.f t238).bind fun t252 => (some (t252, t239, true, !t251)))) = some (r1, r2, r3, r4) := by first | (rw [hy248]; with_reducible exact H) | (have H2_ := (Option.bind_some _ _).symm.trans H; rw [hy248]; with_reducible exact H2_) | (have H2_ := (Option.bind_some _ _).symm.trans H; with_reducible exact H2_) | with_reducible exact H | (rw [hy248]; exact H) | exact H
     have Ny248 := Aside0.mk hy248
     clear hy248
     obtain ⟨t251, A240, H⟩ := Option.bind_eq_some_iff.mp H
     replace H : ((text_Lower.f t238).bind fun t252 => (some (t252, t239, true, !t251))) = some (r1, r2, r3, r4) := H
     have A24 := Aside0.mk A240
     clear A240
     obtain ⟨t252, A250, H⟩ := Option.bind_eq_some_iff.mp H
     replace H : (some (t252, t239, true, !t251)) = some (r1, r2, r3, r4) := H
     have A25 := Aside0.mk A250
     clear A250
     simp only [Option.some.injEq, Prod.mk.injEq] at H
     obtain ⟨rfl, rfl, rfl, rfl⟩ := H
     go_enter Tryz.func44, Tryz.ntmps44
     go_wp2_with (first | ((with_reducible refine gate_callee (f := 61) rfl ?_); refine goesL_ (some 10) rfl rfl Tryz.func61 kf rfl #[.string a0, .string (⟨#[61]⟩ : ByteArray)] rfl ml ?_; (with_reducible refine (strings_Cut.calls a0 (⟨#[61]⟩ : ByteArray) t238 t239 true _ ?side1 A2.out).mono ?_); (case side1 => exact Glob.below HG.out bl); rintro e w' ⟨rfl, ⟨nd, rfl⟩⟩; refine ⟨_, rfl, ?_⟩) | ((with_reducible refine gate_dst (N := 18) rfl ?_); (try (refine gate_guard (by rfl) ?_; dsimp only)); refine Kd.B_bytes _ 5 rfl (N := 18) rfl 9 55 _ t238 rfl rfl Tryz.underlying9 Tryz.underlying55 Tryz.underlying5 (ok := fun _ => True) trivial (od) (Below.refl _ _) (Nat.le_refl _) ?_; intro v243 w26 ho27 hb hg_ hnew_; clear hg_ hnew_; (first | rw [← Ny242.out] at ho27 | (simp only [Int.reduceToNat] at ho27; rw [← Ny242.out] at ho27)); have HO244 := Aside0.mk (Kd.B_lower ho27 (below_size bl)); replace HB := Aside0.mk (below_step bl hb); clear hb ho27; obtain ⟨Ao28, co28, eo28⟩ := Kd.B_slice HO244.out; subst eo28) | (go_at_call 74; (with_reducible refine (slices_ContainsFunc_byte_byte__path_parts_1.calls _ _ y242 false _ ?side1 ?side2 A7.out).mono ?_); (case side1 => repeat (first | exact (Kd.B_reads' HO244.out).2.2 | (with_reducible refine Kd.C_alloc ?_ _) | (with_reducible refine Kd.C_drewN ?_ _) | (with_reducible refine Kd.C_drew ?_))); (case side2 => exact (Kd.B_reads' HO244.out).2.1); rintro e w29 ⟨rfl, hb⟩; replace HO244 := Aside0.mk (Kd.B_below (by (with_reducible repeat (first | apply Kd.B_alloc | apply Kd.B_drewN | apply Kd.B_drew)); exact HO244.out) hb); replace HB := Aside0.mk (below_step bl hb); (try clear hb); (try clear hb2); (try clear hk); (try clear hi)) | ((with_reducible refine gate_dst (N := 33) rfl ?_); (try (refine gate_guard (by rfl) ?_; dsimp only)); refine Kd.B_bytes _ 5 rfl (N := 33) rfl 9 55 _ t239 rfl rfl Tryz.underlying9 Tryz.underlying55 Tryz.underlying5 (ok := fun _ => True) trivial (od) (Below.refl _ _) (Nat.le_refl _) ?_; intro v249 w30 ho31 hb hg_ hnew_; clear hg_ hnew_; (first | rw [← Ny248.out] at ho31 | (simp only [Int.reduceToNat] at ho31; rw [← Ny248.out] at ho31)); have HO250 := Aside0.mk (Kd.B_lower (Kd.B_new' ho31 (Kd.B_lt (by (with_reducible repeat (first | apply Kd.B_alloc | apply Kd.B_drewN | apply Kd.B_drew)); exact HO244.out))) (below_size bl)); replace HO244 := Aside0.mk (Kd.B_elder' (by (with_reducible repeat (first | apply Kd.B_alloc | apply Kd.B_drewN | apply Kd.B_drew)); exact HO244.out) (Kd.B_base ho31) hb); replace HB := Aside0.mk (below_step bl hb); clear hb ho31; obtain ⟨Ao32, co32, eo32⟩ := Kd.B_slice HO250.out; subst eo32) | (go_at_call 74; (with_reducible refine (slices_ContainsFunc_byte_byte__path_parts_2.calls _ _ y248 t251 _ ?side1 ?side2 A24.out).mono ?_); (case side1 => repeat (first | exact (Kd.B_reads' HO250.out).2.2 | (with_reducible refine Kd.C_alloc ?_ _) | (with_reducible refine Kd.C_drewN ?_ _) | (with_reducible refine Kd.C_drew ?_))); (case side2 => exact (Kd.B_reads' HO250.out).2.1); rintro e w33 ⟨rfl, hb⟩; replace HO244 := Aside0.mk (Kd.B_below (by (with_reducible repeat (first | apply Kd.B_alloc | apply Kd.B_drewN | apply Kd.B_drew)); exact HO244.out) hb); replace HO250 := Aside0.mk (Kd.B_below (by (with_reducible repeat (first | apply Kd.B_alloc | apply Kd.B_drewN | apply Kd.B_drew)); exact HO250.out) hb); replace HB := Aside0.mk (below_step bl hb); (try clear hb); (try clear hb2); (try clear hk); (try clear hi)) | ((with_reducible refine gate_callee (f := 64) rfl ?_); refine goesL_ (some 39) rfl rfl Tryz.func64 kf rfl #[.string t238] rfl ml ?_; (with_reducible refine (text_Lower.calls t238 t252 _ A25.out).mono ?_); rintro e w34 ⟨rfl, hb⟩; refine ⟨_, rfl, ?_⟩; replace HO244 := Aside0.mk (Kd.B_below (by (with_reducible repeat (first | apply Kd.B_alloc | apply Kd.B_drewN | apply Kd.B_drew)); exact HO244.out) hb); replace HO250 := Aside0.mk (Kd.B_below (by (with_reducible repeat (first | apply Kd.B_alloc | apply Kd.B_drewN | apply Kd.B_drew)); exact HO250.out) hb); replace HB := Aside0.mk (below_step bl hb); (try clear hb); (try clear hb2); (try clear hk); (try clear hi)))
     refine bodyPost_ret (results_list (rs := [.tmp 2, .tmp 3, .tmp 4, .tmp 5]) rfl (by simp) (.tmp (.tmp (.tmp (.tmp .nil))))) rfl ?_
     exact ⟨rf, bl⟩
   ·replace c15 := Bool.eq_false_iff.mpr c15
    subst c15
    replace H : (if t239.size ≤ 9223372036854775807 then ((slices_ContainsFunc_byte_byte__path_parts_2.f (Kd.numsOf t239)).bind fun t256 => ((text_Lower.f t238).bind fun t257 => (some (t257, t239, false, !t256)))) else (none)) = some (r1, r2, r3, r4) := by rw [if_neg (show ¬ (false = true) by decide)] at H; exact H
    by_cases c35 : t239.size ≤ 9223372036854775807
    rotate_left
    ·rw [if_neg c35] at H
     exact ab H
    rw [if_pos c35] at H
    have c35b0 := eq_true c35
    have c35b1 : decide (t239.size ≤ 9223372036854775807) = true := decide_eq_true c35
    try have c35b2 : (9223372036854775807 < t239.size) = False := eq_false (Nat.not_lt.2 c35)
    clear c35
    obtain ⟨y253, hy253⟩ : ∃ y_ : List Int, y_ = (Kd.numsOf t239) := ⟨_, rfl⟩
    replace H : ((slices_ContainsFunc_byte_byte__path_parts_2.f y253).bind fun t256 => ((text_Lower.f t238).bind fun t257 => (some (t257, t239, false, !t256)))) = some (r1, r2, r3, r4) := by first | (rw [hy253]; with_reducible exact H) | (have H2_ := (Option.bind_some _ _).symm.trans H; rw [hy253]; with_reducible exact H2_) | (have H2_ := (Option.bind_some _ _).symm.trans H; with_reducible exact H2_) | with_reducible exact H | (rw [hy253]; exact H) | exact H
    have Ny253 := Aside0.mk hy253
    clear hy253
    obtain ⟨t256, A360, H⟩ := Option.bind_eq_some_iff.mp H
    replace H : ((text_Lower.f t238).bind fun t257 => (some (t257, t239, false, !t256))) = some (r1, r2, r3, r4) := H
    have A36 := Aside0.mk A360
    clear A360
    obtain ⟨t257, A370, H⟩ := Option.bind_eq_some_iff.mp H
    replace H : (some (t257, t239, false, !t256)) = some (r1, r2, r3, r4) := H
    have A37 := Aside0.mk A370
    clear A370
    simp only [Option.some.injEq, Prod.mk.injEq] at H
    obtain ⟨rfl, rfl, rfl, rfl⟩ := H
    go_enter Tryz.func44, Tryz.ntmps44
    go_wp2_with (first | ((with_reducible refine gate_callee (f := 61) rfl ?_); refine goesL_ (some 10) rfl rfl Tryz.func61 kf rfl #[.string a0, .string (⟨#[61]⟩ : ByteArray)] rfl ml ?_; (with_reducible refine (strings_Cut.calls a0 (⟨#[61]⟩ : ByteArray) t238 t239 false _ ?side1 A2.out).mono ?_); (case side1 => exact Glob.below HG.out bl); rintro e w' ⟨rfl, ⟨nd, rfl⟩⟩; refine ⟨_, rfl, ?_⟩) | ((with_reducible refine gate_dst (N := 18) rfl ?_); (try (refine gate_guard (by rfl) ?_; dsimp only)); refine Kd.B_bytes _ 5 rfl (N := 18) rfl 9 55 _ t238 rfl rfl Tryz.underlying9 Tryz.underlying55 Tryz.underlying5 (ok := fun _ => True) trivial (od) (Below.refl _ _) (Nat.le_refl _) ?_; intro v243 w38 ho39 hb hg_ hnew_; clear hg_ hnew_; (first | rw [← Ny242.out] at ho39 | (simp only [Int.reduceToNat] at ho39; rw [← Ny242.out] at ho39)); have HO244 := Aside0.mk (Kd.B_lower ho39 (below_size bl)); replace HB := Aside0.mk (below_step bl hb); clear hb ho39; obtain ⟨Ao40, co40, eo40⟩ := Kd.B_slice HO244.out; subst eo40) | (go_at_call 74; (with_reducible refine (slices_ContainsFunc_byte_byte__path_parts_1.calls _ _ y242 false _ ?side1 ?side2 A7.out).mono ?_); (case side1 => repeat (first | exact (Kd.B_reads' HO244.out).2.2 | (with_reducible refine Kd.C_alloc ?_ _) | (with_reducible refine Kd.C_drewN ?_ _) | (with_reducible refine Kd.C_drew ?_))); (case side2 => exact (Kd.B_reads' HO244.out).2.1); rintro e w41 ⟨rfl, hb⟩; replace HO244 := Aside0.mk (Kd.B_below (by (with_reducible repeat (first | apply Kd.B_alloc | apply Kd.B_drewN | apply Kd.B_drew)); exact HO244.out) hb); replace HB := Aside0.mk (below_step bl hb); (try clear hb); (try clear hb2); (try clear hk); (try clear hi)) | ((with_reducible refine gate_dst (N := 33) rfl ?_); (try (refine gate_guard (by rfl) ?_; dsimp only)); refine Kd.B_bytes _ 5 rfl (N := 33) rfl 9 55 _ t239 rfl rfl Tryz.underlying9 Tryz.underlying55 Tryz.underlying5 (ok := fun _ => True) trivial (od) (Below.refl _ _) (Nat.le_refl _) ?_; intro v254 w42 ho43 hb hg_ hnew_; clear hg_ hnew_; (first | rw [← Ny253.out] at ho43 | (simp only [Int.reduceToNat] at ho43; rw [← Ny253.out] at ho43)); have HO255 := Aside0.mk (Kd.B_lower (Kd.B_new' ho43 (Kd.B_lt (by (with_reducible repeat (first | apply Kd.B_alloc | apply Kd.B_drewN | apply Kd.B_drew)); exact HO244.out))) (below_size bl)); replace HO244 := Aside0.mk (Kd.B_elder' (by (with_reducible repeat (first | apply Kd.B_alloc | apply Kd.B_drewN | apply Kd.B_drew)); exact HO244.out) (Kd.B_base ho43) hb); replace HB := Aside0.mk (below_step bl hb); clear hb ho43; obtain ⟨Ao44, co44, eo44⟩ := Kd.B_slice HO255.out; subst eo44) | (go_at_call 74; (with_reducible refine (slices_ContainsFunc_byte_byte__path_parts_2.calls _ _ y253 t256 _ ?side1 ?side2 A36.out).mono ?_); (case side1 => repeat (first | exact (Kd.B_reads' HO255.out).2.2 | (with_reducible refine Kd.C_alloc ?_ _) | (with_reducible refine Kd.C_drewN ?_ _) | (with_reducible refine Kd.C_drew ?_))); (case side2 => exact (Kd.B_reads' HO255.out).2.1); rintro e w45 ⟨rfl, hb⟩; replace HO244 := Aside0.mk (Kd.B_below (by (with_reducible repeat (first | apply Kd.B_alloc | apply Kd.B_drewN | apply Kd.B_drew)); exact HO244.out) hb); replace HO255 := Aside0.mk (Kd.B_below (by (with_reducible repeat (first | apply Kd.B_alloc | apply Kd.B_drewN | apply Kd.B_drew)); exact HO255.out) hb); replace HB := Aside0.mk (below_step bl hb); (try clear hb); (try clear hb2); (try clear hk); (try clear hi)) | ((with_reducible refine gate_callee (f := 64) rfl ?_); refine goesL_ (some 39) rfl rfl Tryz.func64 kf rfl #[.string t238] rfl ml ?_; (with_reducible refine (text_Lower.calls t238 t257 _ A37.out).mono ?_); rintro e w46 ⟨rfl, hb⟩; refine ⟨_, rfl, ?_⟩; replace HO244 := Aside0.mk (Kd.B_below (by (with_reducible repeat (first | apply Kd.B_alloc | apply Kd.B_drewN | apply Kd.B_drew)); exact HO244.out) hb); replace HO255 := Aside0.mk (Kd.B_below (by (with_reducible repeat (first | apply Kd.B_alloc | apply Kd.B_drewN | apply Kd.B_drew)); exact HO255.out) hb); replace HB := Aside0.mk (below_step bl hb); (try clear hb); (try clear hb2); (try clear hk); (try clear hi)))
    refine bodyPost_ret (results_list (rs := [.tmp 2, .tmp 3, .tmp 4, .tmp 5]) rfl (by simp) (.tmp (.tmp (.tmp (.tmp .nil))))) rfl ?_
    exact ⟨rf, bl⟩

/-! ### slices_Contains_string_string: function 45 (by hand) -/
def slices_Contains_string_string.f (l0 : List ByteArray) (a1 : ByteArray) : Option Bool := some (Lib.containsS l0 a1)
theorem slices_Contains_string_string.calls (A0 : Option Addr) (c0 : Nat) (l0 : List ByteArray) (a1 : ByteArray) (r : Bool) (w : World) (hr0 : Kd.C Kd.string w A0 l0.length l0) (hc0 : l0.length ≤ c0) (h : slices_Contains_string_string.f l0 a1 = some r) :
    Calls Tryz.prog 45 #[.slice A0 l0.length c0, .string a1] w fun e w' => e = .returned (.bool r) ∧ Drawn0 w w' := by
  obtain rfl := Option.some.inj h
  by_cases hl : l0 = []
  · subst hl
    refine (Tryz.slices_Contains_string_empty A0 c0 a1 w).mono ?_
    rintro e w' ⟨rfl, rfl⟩
    exact ⟨rfl, Drawn0.refl _⟩
  · obtain ⟨bk, o, rfl, hbk, hc⟩ := cells_at hr0 (List.length_pos_iff.2 hl)
    have hrd : ReadsOf Value.string ByteArray.empty w (some ⟨bk, o, none⟩) l0.length l0 := Kd.reads_of_C hr0
    refine (Tryz.slices_Contains_string bk o l0.length c0 l0 a1 w (Nat.le_refl _) hrd.2.1 (fun j hj => ?_)).mono ?_
    · rw [hc j (l0[j]'hj) (List.getElem?_eq_getElem hj)]
      simp [List.getD, hj]
    · rintro e w' ⟨rfl, rfl⟩
      rw [List.take_of_length_le (Nat.le_refl _)]
      exact ⟨rfl, Drawn0.refl _⟩


/-! ### path_ParseParams_of: function 180 (by hand) -/
def path_ParseParams_of.f (a0 : ByteArray) : Option (Int × Bool) := some (saysIx a0, saysIx a0 != 0)


/-! ### path_ParseParams_run: function 181 (by hand) -/
def path_says_2.f (a1 : ByteArray) : Option (Bool × Int) :=
  (text_Same.f a1 (⟨#[56, 98, 105, 116, 109, 105, 109, 101]⟩ : ByteArray)).bind fun t1 => if t1 = true then some (true, 0) else (text_Same.f a1 (⟨#[55, 98, 105, 116]⟩ : ByteArray)).bind fun t2 => if t2 = true then some (false, 0) else some (false, 1)
def path_ParseParams_run.f (ix : Int) (a0 a1 : Bool) (a2 : Int) (v : ByteArray) : Option (Bool × Bool × Int × Int) :=
  if ix = 1 then (text_Number.f v 9).bind fun t => some (true, a1, t.1, t.2)
  else if ix = 2 then (path_says_2.f v).bind fun t => some (a0, t.1, a2, t.2)
  else none
theorem grown_set (w : World) (g i : Nat) (v : Value) : w.grownBy (w.setCell ⟨g, i, none⟩ v) (some g) :=
  ⟨rfl, rfl, rfl, by simp [World.size_setCell], fun k _ hk => Below.heap_setCell w ⟨g, i, none⟩ v k (fun e => hk (by rw [e]))⟩
theorem grown_then {w w1 w2 : World} {r : Option Nat} (h : w.grownBy w1 r) (k : w1.grownBy w2 r) : w.grownBy w2 r :=
  ⟨k.os.trans h.os, k.tape.trans h.tape, k.output.trans h.output, Nat.le_trans h.size k.size, fun i hi hr => (k.block i (Nat.lt_of_lt_of_le hi h.size) hr).trans (h.block i hi hr)⟩
theorem grown_below {w w1 : World} (r : Option Nat) (h : Below w.heap.size w w1) : w.grownBy w1 r := ⟨h.os, h.tape, h.output, h.size, fun i hi _ => h.block i hi⟩
theorem path_says_1.calls (a1 : ByteArray) (g : Nat) (b0 b1 : Bool) (z r1 r2 : Int) (w : World) (hg : w.heap[g]? = some (.cells #[.bool b0, .bool b1, .int .i64 z] 46 (0, 0))) (h : text_Number.f a1 9 = some (r1, r2)) :
    Calls Tryz.prog 167 #[.pointer (some ⟨g, 0, none⟩), .string a1] w fun e w' => e = .returned (.int .i64 r2) ∧ w'.heap[g]? = some (.cells #[.bool true, .bool b1, .int .i64 r1] 46 (0, 0)) ∧ w.grownBy w' (some g) := by
  have HN := Aside0.mk h
  have HG := Aside0.mk hg
  have h0 : w.cell? ⟨g, 0, none⟩ = some (.bool b0) := (blk_cell hg 0).trans rfl
  have h0f := blk_frozen hg 0
  clear h hg
  go_enter Tryz.func167, Tryz.ntmps167
  go_wp2_with (first | (go_at_call 112; (with_reducible refine (text_Number.calls a1 9 r1 r2 _ HN.out).mono ?_); rintro e w1 ⟨rfl, hb⟩; have B1 := Aside0.mk (blk_below (blk_set HG.out 0 (.bool true)) hb); have hc2 : w1.cell? ⟨g, 2, none⟩ = some (.int .i64 z) := (blk_cell B1.out 2).trans rfl; have hf2 := blk_frozen B1.out 2; have HX := Aside0.mk (grown_then (grown_set w g 0 (.bool true)) (grown_below (some g) hb)); clear hb))
  go_ret
  exact ⟨rfl, (blk_set B1.out 2 (.int .i64 r1)).trans rfl, grown_then HX.out (grown_set _ g 2 _)⟩
theorem path_says_2.calls (a1 : ByteArray) (g : Nat) (b0 b1 : Bool) (z : Int) (r1 : Bool) (r2 : Int) (w : World) (hg : w.heap[g]? = some (.cells #[.bool b0, .bool b1, .int .i64 z] 46 (0, 0))) (h : path_says_2.f a1 = some (r1, r2)) :
    Calls Tryz.prog 168 #[.pointer (some ⟨g, 0, none⟩), .string a1] w fun e w' => e = .returned (.int .i64 r2) ∧ w'.heap[g]? = some (.cells #[.bool b0, .bool r1, .int .i64 z] 46 (0, 0)) ∧ w.grownBy w' (some g) := by
  have HG := Aside0.mk hg
  unfold path_says_2.f at h
  obtain ⟨t1, h1, h⟩ := Option.bind_eq_some_iff.mp h
  have H1 := Aside0.mk h1
  clear h1 hg
  by_cases c1 : t1 = true
  · rw [if_pos c1] at h
    obtain ⟨rfl, rfl⟩ := Prod.mk.inj (Option.some.inj h)
    subst c1
    go_enter Tryz.func168, Tryz.ntmps168
    go_wp2_with (first | (go_at_call 34; (with_reducible refine (text_Same.calls a1 (⟨#[56, 98, 105, 116, 109, 105, 109, 101]⟩ : ByteArray) true _ H1.out).mono ?_); rintro e w1 ⟨rfl, hb⟩; have B1 := Aside0.mk (blk_below HG.out hb); have hc1 : w1.cell? ⟨g, 1, none⟩ = some (.bool b1) := (blk_cell B1.out 1).trans rfl; have hf1 := blk_frozen B1.out 1; have hd1 : (w1.setCell ⟨g, 1, none⟩ (.bool true)).cell? ⟨g, 1, none⟩ = some (.bool true) := (blk_cell (blk_set B1.out 1 (.bool true)) 1).trans rfl; have HX := Aside0.mk (grown_then (grown_below (some g) hb) (grown_set w1 g 1 (.bool true))); clear hb))
    go_ret
    exact ⟨rfl, (blk_set B1.out 1 (.bool true)).trans rfl, HX.out⟩
  · rw [if_neg c1] at h
    have c2 : t1 = false := by simpa using c1
    subst c2
    clear c1
    obtain ⟨t2, h2, h⟩ := Option.bind_eq_some_iff.mp h
    have H2 := Aside0.mk h2
    clear h2
    cases t2
    · rw [if_neg (by decide)] at h
      obtain ⟨rfl, rfl⟩ := Prod.mk.inj (Option.some.inj h)
      clear h
      go_enter Tryz.func168, Tryz.ntmps168
      go_wp2_with (first | (go_at_call 34; (with_reducible refine (text_Same.calls a1 (⟨#[56, 98, 105, 116, 109, 105, 109, 101]⟩ : ByteArray) false _ H1.out).mono ?_); rintro e w1 ⟨rfl, hb⟩; have B1 := Aside0.mk (blk_below HG.out hb); have hc1 : w1.cell? ⟨g, 1, none⟩ = some (.bool b1) := (blk_cell B1.out 1).trans rfl; have hf1 := blk_frozen B1.out 1; have hd1 : (w1.setCell ⟨g, 1, none⟩ (.bool false)).cell? ⟨g, 1, none⟩ = some (.bool false) := (blk_cell (blk_set B1.out 1 (.bool false)) 1).trans rfl; have HX := Aside0.mk (grown_then (grown_below (some g) hb) (grown_set w1 g 1 (.bool false))); clear hb) | (go_at_call 34; (with_reducible refine (text_Same.calls a1 (⟨#[55, 98, 105, 116]⟩ : ByteArray) false _ H2.out).mono ?_); rintro e w2 ⟨rfl, hb⟩; have B2 := Aside0.mk (blk_below (blk_set B1.out 1 (.bool false)) hb); have HY := Aside0.mk (grown_then HX.out (grown_below (some g) hb)); clear hb))
      go_wp2_with (first | (go_at_call 34; (with_reducible refine (text_Same.calls a1 (⟨#[56, 98, 105, 116, 109, 105, 109, 101]⟩ : ByteArray) false _ H1.out).mono ?_); rintro e w1 ⟨rfl, hb⟩; have B1 := Aside0.mk (blk_below HG.out hb); have hc1 : w1.cell? ⟨g, 1, none⟩ = some (.bool b1) := (blk_cell B1.out 1).trans rfl; have hf1 := blk_frozen B1.out 1; have hd1 : (w1.setCell ⟨g, 1, none⟩ (.bool false)).cell? ⟨g, 1, none⟩ = some (.bool false) := (blk_cell (blk_set B1.out 1 (.bool false)) 1).trans rfl; have HX := Aside0.mk (grown_then (grown_below (some g) hb) (grown_set w1 g 1 (.bool false))); clear hb) | (go_at_call 34; (with_reducible refine (text_Same.calls a1 (⟨#[55, 98, 105, 116]⟩ : ByteArray) false _ H2.out).mono ?_); rintro e w2 ⟨rfl, hb⟩; have B2 := Aside0.mk (blk_below (blk_set B1.out 1 (.bool false)) hb); have HY := Aside0.mk (grown_then HX.out (grown_below (some g) hb)); clear hb))
      go_ret
      exact ⟨rfl, B2.out.trans rfl, HY.out⟩
    · rw [if_pos rfl] at h
      obtain ⟨rfl, rfl⟩ := Prod.mk.inj (Option.some.inj h)
      clear h
      go_enter Tryz.func168, Tryz.ntmps168
      go_wp2_with (first | (go_at_call 34; (with_reducible refine (text_Same.calls a1 (⟨#[56, 98, 105, 116, 109, 105, 109, 101]⟩ : ByteArray) false _ H1.out).mono ?_); rintro e w1 ⟨rfl, hb⟩; have B1 := Aside0.mk (blk_below HG.out hb); have hc1 : w1.cell? ⟨g, 1, none⟩ = some (.bool b1) := (blk_cell B1.out 1).trans rfl; have hf1 := blk_frozen B1.out 1; have hd1 : (w1.setCell ⟨g, 1, none⟩ (.bool false)).cell? ⟨g, 1, none⟩ = some (.bool false) := (blk_cell (blk_set B1.out 1 (.bool false)) 1).trans rfl; have HX := Aside0.mk (grown_then (grown_below (some g) hb) (grown_set w1 g 1 (.bool false))); clear hb) | (go_at_call 34; (with_reducible refine (text_Same.calls a1 (⟨#[55, 98, 105, 116]⟩ : ByteArray) true _ H2.out).mono ?_); rintro e w2 ⟨rfl, hb⟩; have B2 := Aside0.mk (blk_below (blk_set B1.out 1 (.bool false)) hb); have HY := Aside0.mk (grown_then HX.out (grown_below (some g) hb)); clear hb))
      go_wp2_with (first | (go_at_call 34; (with_reducible refine (text_Same.calls a1 (⟨#[56, 98, 105, 116, 109, 105, 109, 101]⟩ : ByteArray) false _ H1.out).mono ?_); rintro e w1 ⟨rfl, hb⟩; have B1 := Aside0.mk (blk_below HG.out hb); have hc1 : w1.cell? ⟨g, 1, none⟩ = some (.bool b1) := (blk_cell B1.out 1).trans rfl; have hf1 := blk_frozen B1.out 1; have hd1 : (w1.setCell ⟨g, 1, none⟩ (.bool false)).cell? ⟨g, 1, none⟩ = some (.bool false) := (blk_cell (blk_set B1.out 1 (.bool false)) 1).trans rfl; have HX := Aside0.mk (grown_then (grown_below (some g) hb) (grown_set w1 g 1 (.bool false))); clear hb) | (go_at_call 34; (with_reducible refine (text_Same.calls a1 (⟨#[55, 98, 105, 116]⟩ : ByteArray) true _ H2.out).mono ?_); rintro e w2 ⟨rfl, hb⟩; have B2 := Aside0.mk (blk_below (blk_set B1.out 1 (.bool false)) hb); have HY := Aside0.mk (grown_then HX.out (grown_below (some g) hb)); clear hb))
      go_ret
      exact ⟨rfl, B2.out.trans rfl, HY.out⟩
/-- The world with an old block put back, and the new cells stored one by one. -/
theorem put_back {w w' : World} {g T : Nat} {a b c a' b' c' : Value} (h : w.heap[g]? = some (.cells #[a, b, c] T (0, 0))) (h' : w'.heap[g]? = some (.cells #[a', b', c'] T (0, 0))) (k : w.grownBy w' (some g)) :
    ∃ w1, Below w.heap.size w w1 ∧ w' = ((w1.setCell ⟨g, 0, none⟩ a').setCell ⟨g, 1, none⟩ b').setCell ⟨g, 2, none⟩ c' := by
  have hl : g < w'.heap.size := (Array.getElem?_eq_some_iff.1 h').1
  refine ⟨{ w' with heap := w'.heap.setIfInBounds g (.cells #[a, b, c] T (0, 0)) }, ⟨k.os, k.tape, k.output, by simpa using k.size, fun i hi => ?_⟩, ?_⟩
  · show (w'.heap.setIfInBounds g _)[i]? = _
    rw [Array.getElem?_setIfInBounds]
    by_cases e : g = i
    · subst e; rw [if_pos rfl, if_pos hl, h]
    · rw [if_neg e]; exact k.block i hi (fun q => e (Option.some.inj q).symm)
  · unfold World.setCell
    obtain ⟨hp, tp, dn, os, ot⟩ := w'
    simp only [World.mk.injEq, and_true, true_and]
    refine Array.ext_getElem? fun i => ?_
    simp only [Array.getElem?_modify, Array.getElem?_setIfInBounds]
    by_cases e : g = i
    · subst e
      have h2 : hp[g]? = some (.cells #[a', b', c'] T (0, 0)) := h'
      have hl2 : g < hp.size := hl
      simp [hl2, (Array.getElem?_eq_some_iff.1 h2).2]
    · simp [e]
theorem path_ParseParams_run.one {i : Int} {b0 b1 : Bool} {z : Int} {v : ByteArray} {t1 t2 : Bool} {t3 t4 : Int} (h : path_ParseParams_run.f i b0 b1 z v = some (t1, t2, t3, t4)) :
    ∃ (n : Nat) (fn : Func), saysFn i = .func (.func n) #[] #[] ∧ Tryz.prog.funcs[n]? = some fn ∧ (fn.name == "runtime.NumGoroutine") = false ∧ fn.body.isSome = true ∧ ∀ (g : Nat) (w : World), w.heap[g]? = some (.cells #[.bool b0, .bool b1, .int .i64 z] 46 (0, 0)) →
      Calls Tryz.prog n #[.pointer (some ⟨g, 0, none⟩), .string v] w fun e w' => e = .returned (.int .i64 t4) ∧ ∃ w1, Below w.heap.size w w1 ∧ w' = ((w1.setCell ⟨g, 0, none⟩ (.bool t1)).setCell ⟨g, 1, none⟩ (.bool t2)).setCell ⟨g, 2, none⟩ (.int .i64 t3) := by
  unfold path_ParseParams_run.f at h
  by_cases h1 : i = 1
  · rw [if_pos h1] at h
    subst h1
    obtain ⟨⟨y1, y2⟩, h2, h⟩ := Option.bind_eq_some_iff.mp h
    simp only [Option.some.injEq, Prod.mk.injEq] at h
    obtain ⟨rfl, rfl, rfl, rfl⟩ := h
    refine ⟨167, _, rfl, Tryz.func167, by kernel_rfl, rfl, fun g w hg => (path_says_1.calls v g b0 b1 z y1 y2 w hg h2).mono ?_⟩
    rintro e w' ⟨rfl, hx, hk⟩
    exact ⟨rfl, put_back hg hx hk⟩
  · rw [if_neg h1] at h
    by_cases h2 : i = 2
    · rw [if_pos h2] at h
      subst h2
      obtain ⟨⟨y1, y2⟩, h2, h⟩ := Option.bind_eq_some_iff.mp h
      simp only [Option.some.injEq, Prod.mk.injEq] at h
      obtain ⟨rfl, rfl, rfl, rfl⟩ := h
      refine ⟨168, _, rfl, Tryz.func168, by kernel_rfl, rfl, fun g w hg => (path_says_2.calls v g b0 b1 z y1 y2 w hg h2).mono ?_⟩
      rintro e w' ⟨rfl, hx, hk⟩
      exact ⟨rfl, put_back hg hx hk⟩
    · rw [if_neg h2] at h; cases h
theorem says_now {w w1 : World} (hG : Glob w) (hb : Below w.heap.size w w1) {n : ByteArray} {i : Int} {b : Bool} (h : path_ParseParams_of.f n = some (i, b)) (hn : n.size ≤ maxLen) :
    ∃ b0, w1.cell? ⟨0, 0, none⟩ = some (.map (some b0)) ∧ (Instr.lookup 92 (.map (some b0)) (.string n) true).run Tryz.prog w1 = .ok (.tuple #[saysFn i, .bool b]) w1 := by
  obtain ⟨b0, h1, h2⟩ := (hG.below hb).says.at
  unfold path_ParseParams_of.f at h
  simp only [Option.some.injEq, Prod.mk.injEq] at h
  obtain ⟨rfl, rfl⟩ := h
  exact ⟨b0, h1, h2 n hn⟩
theorem parts_size {a n v : ByteArray} {h i : Bool} (e : path_parts.f a = some (n, v, h, i)) : n.size ≤ maxLen := by
  have hM : maxLen = 9223372036854775807 := rfl
  have low : ∀ {x r : ByteArray}, text_Lower.f x = some r → r.size ≤ maxLen := by
    intro x r q
    unfold text_Lower.f at q
    split at q
    · rename_i hs
      obtain rfl := Option.some.inj q
      show (lowerB x).data.size ≤ _
      unfold lowerB
      have : x.data.toList.length = x.size := by rw [Array.length_toList]; rfl
      simp only [List.size_toArray, List.length_map]
      omega
    · cases q
  have fin : ∀ {x : ByteArray} {g : ByteArray → ByteArray × ByteArray × Bool × Bool} (hg : ∀ y, (g y).1 = y), ((text_Lower.f x).bind fun y => some (g y)) = some (n, v, h, i) → n.size ≤ maxLen := by
    intro x g hg q
    obtain ⟨y, h1, h2⟩ := Option.bind_eq_some_iff.mp q
    have h3 : (g y).1 = n := by rw [Option.some.inj h2]
    rw [hg] at h3
    rw [← h3]; exact low h1
  unfold path_parts.f at e
  obtain ⟨t, _, e⟩ := Option.bind_eq_some_iff.mp e
  split at e
  · exact fin (g := fun y => (y, t.2.1, t.2.2, false)) (fun _ => rfl) e
  · split at e
    · obtain ⟨c1, _, e⟩ := Option.bind_eq_some_iff.mp e
      split at e
      · exact fin (g := fun y => (y, t.2.1, t.2.2, false)) (fun _ => rfl) e
      · split at e
        · split at e
          · exact fin (g := fun y => (y, t.2.1, t.2.2, false)) (fun _ => rfl) e
          · split at e
            · obtain ⟨c2, _, e⟩ := Option.bind_eq_some_iff.mp e
              exact fin (g := fun y => (y, t.2.1, t.2.2, !c2)) (fun _ => rfl) e
            · cases e
        · split at e
          · obtain ⟨c2, _, e⟩ := Option.bind_eq_some_iff.mp e
            exact fin (g := fun y => (y, t.2.1, t.2.2, !c2)) (fun _ => rfl) e
          · cases e
    · cases e
/-- A call of what a variable holds. -/
theorem gate_callv {P : Program} {ops : Array Oper} {Q : Exit → Act → World → Prop} {o : Oper} {rest : List Oper} {a : Act} {W : World} {c : Operand} {as1 : Array Operand} {ts : Array TypeId} (_ho : o.op = .call { callee := .value c, args := as1, argTypes := ts }) (h : wpList P ops Q (o :: rest) a W) : wpList P ops Q (o :: rest) a W := h
theorem goesV_ {P : Program} {ops : Array Oper} {Q : Exit → Act → World → Prop} {rest : List Oper} {oi : Oper} {a : Act} {w : World} (N : Option Tmp) (hd : oi.dst = N) (hg : oi.guard = none) {c : Operand} {f : FuncId} {fn : Func} {as1 : Array Operand} {ts : Array TypeId} (hc : a.eval c = .func (.func f) #[] #[]) (hf : P.funcs[f]? = some fn) (hname : (fn.name == "runtime.NumGoroutine") = false) (hb : fn.body.isSome = true) (args : Array Value)
    (hop : oi.op = .call { callee := .value c, args := as1, argTypes := ts }) (hargs : as1.map a.eval = args)
    (h : Calls P f args w fun e w' => ∃ v, e = .returned v ∧ wpList P ops Q rest (a.put N v) w') : wpList P ops Q (oi :: rest) a w := by
  refine wpList_plain hg fun K hK => ?_
  have he := enters_ hf hname hb args w
  have hrun : (execOp a.eval oi).run P w = .ok (.enter f args) w := by
    unfold execOp
    simp [hop, resolve, Deferred.ofValue, invoke, hc, hargs, he]
  unfold Oper.wp
  rw [hrun, Oper.upon_enter]
  refine h.mono fun e w'' hh => ?_
  obtain ⟨v, rfl, hk⟩ := hh
  subst hd
  exact hK _ _ hk


end Go.Proofs.YtgelfnjicglmbaaGreatDoor.Q
end
section
namespace Go.Proofs.YtgelfnjicglmbaaGreatDoor.Q

/-! ### path_ParseParams: function 17 -/
mutual
def path_ParseParams.l0 : Nat → Int → List ByteArray → List ByteArray → Int → Int → Bool → Bool → Int → Option (Bool × Bool × Int × Int)
 | 0, _, _, _, _, _, _, _, _ => none
 | k + 1, x5, x6, x25, x26, x27, x260000, x260001, x260002 => if x27 < x26 then (if 0 ≤ x27 then (if x27 < (x25.length : Int) then ((path_parts.f (rdOf ByteArray.empty x25 x27)).bind fun bt264 => ((path_ParseParams_of.f bt264.1).bind fun bt268 => (if bt268.2 = true then (if bt264.2.2.1 = true then ((slices_Contains_string_string.f x6 bt264.1).bind fun t270 => (path_ParseParams.j1 k x5 x6 bt264.1 bt264.2.1 bt264.2.2.1 bt264.2.2.2 bt268.1 bt268.2 1 x25 x26 x27 (!t270) x260000 x260001 x260002)) else (path_ParseParams.j1 k x5 x6 bt264.1 bt264.2.1 bt264.2.2.1 bt264.2.2.2 bt268.1 bt268.2 1 x25 x26 x27 false x260000 x260001 x260002)) else (path_ParseParams.j1 k x5 x6 bt264.1 bt264.2.1 bt264.2.2.1 bt264.2.2.2 bt268.1 bt268.2 1 x25 x26 x27 false x260000 x260001 x260002)))) else (none)) else (none)) else (if x5 = 0 then (some (x260000, x260001, x260002, 0)) else (some (false, false, 0, x5)))
def path_ParseParams.j1 : Nat → Int → List ByteArray → ByteArray → ByteArray → Bool → Bool → Int → Bool → Int → List ByteArray → Int → Int → Bool → Bool → Bool → Int → Option (Bool × Bool × Int × Int)
 | 0, _, _, _, _, _, _, _, _, _, _, _, _, _, _, _, _ => none
 | k + 1, x5, x6, x9, x10, x11, x12, x13, x14, x15, x25, x26, x27, x53, x260000, x260001, x260002 => if x53 = true then ((path_ParseParams_run.f x13 x260000 x260001 x260002 x10).bind fun bt271 => (if x12 = true then (if bt271.2.2.2 = 5 then (some (false, false, 0, 5)) else (if x6.length < 8796093022208 then (path_ParseParams.l0 k (mx x5 bt271.2.2.2) (x6 ++ [x9]) x25 x26 (wrap64 (x27 + 1)) bt271.1 bt271.2.1 bt271.2.2.1) else (none))) else (some (false, false, 0, 5)))) else (if x14 = true then (if x11 = true then (path_ParseParams.j2 k x5 x6 x9 x10 x12 x13 x15 x25 x26 x27 (x9.toList == ([115, 105, 122, 101] : List UInt8)) x260000 x260001 x260002) else (path_ParseParams.j2 k x5 x6 x9 x10 x12 x13 x15 x25 x26 x27 false x260000 x260001 x260002)) else (path_ParseParams.j2 k x5 x6 x9 x10 x12 x13 x15 x25 x26 x27 false x260000 x260001 x260002))
def path_ParseParams.j2 : Nat → Int → List ByteArray → ByteArray → ByteArray → Bool → Int → Int → List ByteArray → Int → Int → Bool → Bool → Bool → Int → Option (Bool × Bool × Int × Int)
 | 0, _, _, _, _, _, _, _, _, _, _, _, _, _, _ => none
 | k + 1, x5, x6, x9, x10, x12, x13, x15, x25, x26, x27, x64, x260000, x260001, x260002 => if x64 = true then ((path_ParseParams_run.f x13 false false 0 x10).bind fun bt279 => (if x12 = true then (if (mx bt279.2.2.2 1) = 5 then (some (false, false, 0, 5)) else (if x6.length < 8796093022208 then (path_ParseParams.l0 k (mx x5 (mx bt279.2.2.2 1)) (x6 ++ [x9]) x25 x26 (wrap64 (x27 + 1)) x260000 x260001 x260002) else (none))) else (some (false, false, 0, 5)))) else (if x12 = true then (if x15 = 5 then (some (false, false, 0, 5)) else (if x6.length < 8796093022208 then (path_ParseParams.l0 k (mx x5 x15) (x6 ++ [x9]) x25 x26 (wrap64 (x27 + 1)) x260000 x260001 x260002) else (none))) else (some (false, false, 0, 5)))
end
def path_ParseParams.f (k : Nat) (a0 : ByteArray) : Option (Bool × Bool × Int × Int) := if a0.toList = ([] : List UInt8) then (some (false, false, 0, 0)) else (if 0 < (a0.size : Int) then (if (bt a0 0) = 32 then (if 1 ≤ (a0.size : Int) then ((text_Split.f k (a0.extract 1 a0.size) 32).bind fun t260 => (path_ParseParams.l0 k 0 ([] : List ByteArray) t260 (t260.length : Int) 0 false false 0)) else (none)) else (some (false, false, 0, 5))) else (none))
theorem path_ParseParams.mono_l : ∀ k, (∀ y0 y1 y2 y3 y4 y5 y6 y7, LeO (path_ParseParams.l0 k y0 y1 y2 y3 y4 y5 y6 y7) (path_ParseParams.l0 (k + 1) y0 y1 y2 y3 y4 y5 y6 y7)) ∧ (∀ y0 y1 y2 y3 y4 y5 y6 y7 y8 y9 y10 y11 y12 y13 y14 y15, LeO (path_ParseParams.j1 k y0 y1 y2 y3 y4 y5 y6 y7 y8 y9 y10 y11 y12 y13 y14 y15) (path_ParseParams.j1 (k + 1) y0 y1 y2 y3 y4 y5 y6 y7 y8 y9 y10 y11 y12 y13 y14 y15)) ∧ (∀ y0 y1 y2 y3 y4 y5 y6 y7 y8 y9 y10 y11 y12 y13, LeO (path_ParseParams.j2 k y0 y1 y2 y3 y4 y5 y6 y7 y8 y9 y10 y11 y12 y13) (path_ParseParams.j2 (k + 1) y0 y1 y2 y3 y4 y5 y6 y7 y8 y9 y10 y11 y12 y13))
 | 0 => ⟨fun _ _ _ _ _ _ _ _ r h => by simp [path_ParseParams.l0] at h, fun _ _ _ _ _ _ _ _ _ _ _ _ _ _ _ _ r h => by simp [path_ParseParams.j1] at h, fun _ _ _ _ _ _ _ _ _ _ _ _ _ _ r h => by simp [path_ParseParams.j2] at h⟩
 | k + 1 => by
  obtain ⟨ih0, ih1, ih2⟩ := path_ParseParams.mono_l k
  refine ⟨?_, ?_, ?_⟩
  ·intro y0 y1 y2 y3 y4 y5 y6 y7
   unfold path_ParseParams.l0
   repeat' first
   | (with_reducible first | exact ih0 _ _ _ _ _ _ _ _ | exact ih1 _ _ _ _ _ _ _ _ _ _ _ _ _ _ _ _ | exact ih2 _ _ _ _ _ _ _ _ _ _ _ _ _ _ | exact text_Split.mono _ _ _ | exact LeO.refl _ | exact LeO.none _ | refine LeO.ite ?_ ?_ | refine LeO.bind ?_ (fun _ => ?_))
  ·intro y0 y1 y2 y3 y4 y5 y6 y7 y8 y9 y10 y11 y12 y13 y14 y15
   unfold path_ParseParams.j1
   repeat' first
   | (with_reducible first | exact ih0 _ _ _ _ _ _ _ _ | exact ih1 _ _ _ _ _ _ _ _ _ _ _ _ _ _ _ _ | exact ih2 _ _ _ _ _ _ _ _ _ _ _ _ _ _ | exact text_Split.mono _ _ _ | exact LeO.refl _ | exact LeO.none _ | refine LeO.ite ?_ ?_ | refine LeO.bind ?_ (fun _ => ?_))
  ·intro y0 y1 y2 y3 y4 y5 y6 y7 y8 y9 y10 y11 y12 y13
   unfold path_ParseParams.j2
   repeat' first
   | (with_reducible first | exact ih0 _ _ _ _ _ _ _ _ | exact ih1 _ _ _ _ _ _ _ _ _ _ _ _ _ _ _ _ | exact ih2 _ _ _ _ _ _ _ _ _ _ _ _ _ _ | exact text_Split.mono _ _ _ | exact LeO.refl _ | exact LeO.none _ | refine LeO.ite ?_ ?_ | refine LeO.bind ?_ (fun _ => ?_))
theorem path_ParseParams.mono : ∀ a0 k, LeO (path_ParseParams.f k a0) (path_ParseParams.f (k + 1) a0) := by
 intro a0 k
 obtain ⟨ih0, ih1, ih2⟩ := path_ParseParams.mono_l k
 unfold path_ParseParams.f
 repeat' first
   | (with_reducible first | exact ih0 _ _ _ _ _ _ _ _ | exact ih1 _ _ _ _ _ _ _ _ _ _ _ _ _ _ _ _ | exact ih2 _ _ _ _ _ _ _ _ _ _ _ _ _ _ | exact text_Split.mono _ _ _ | exact LeO.refl _ | exact LeO.none _ | refine LeO.ite ?_ ?_ | refine LeO.bind ?_ (fun _ => ?_))
theorem path_ParseParams.calls (k : Nat) (a0 : ByteArray) (r1 : Bool) (r2 : Bool) (r3 : Int) (r4 : Int) (w : World) (hG : Glob w) (h : path_ParseParams.f k a0 = some (r1, r2, r3, r4)) :
  Calls Tryz.prog 17 #[.string a0] w fun e w' => e = .returned (.tuple #[.agg #[.bool r1, .bool r2, .int .i64 r3], .int .i64 r4]) ∧ Below w.heap.size w w' := by
 have hu46 := Tryz.underlying46
 have HB := Aside0.mk (Below.refl w.heap.size w)
 have HG := Aside0.mk hG
 clear hG
 have H : (if a0.toList = ([] : List UInt8) then (some (false, false, 0, 0)) else (if 0 < (a0.size : Int) then (if (bt a0 0) = 32 then (if 1 ≤ (a0.size : Int) then ((text_Split.f k (a0.extract 1 a0.size) 32).bind fun t260 => (path_ParseParams.l0 k 0 ([] : List ByteArray) t260 (t260.length : Int) 0 false false 0)) else (none)) else (some (false, false, 0, 5))) else (none))) = some (r1, r2, r3, r4) := h
 clear h
 by_cases c2 : a0.toList = ([] : List UInt8)
 ·rw [if_pos c2] at H
  have c2b0 : (a0.toList == ([] : List UInt8)) = true := beq_iff_eq.mpr c2
  have c2b1 : (a0.toList != ([] : List UInt8)) = false := bne_eq_false_iff_eq.mpr c2
  clear c2
  simp only [Option.some.injEq, Prod.mk.injEq] at H
  obtain ⟨rfl, rfl, rfl, rfl⟩ := H
  go_enter Tryz.func17, Tryz.ntmps17
  go_wp2_with (first | ((with_reducible refine gate_dst (N := 2) rfl ?_); refine box_event ?hg (N := 2) ?hd (cs := #[.bool false, .bool false, .int .i64 0]) (t := 46) ?hr ?_; (case hd => rfl); (case hg => rfl); (case hr => first | (go_simp; done) | (go_simp; rfl)); intro gb258 hg w3 hbox hb; have BK258 := Aside0.mk (hbox); have GW258 := Aside0.mk (gz hg : w.heap.size ≤ gb258); have GE258 := Aside0.mk (gz hg : w.heap.size ≤ gb258); replace HB := Aside0.mk (below_step bl hb); clear hb hbox hg) | ((with_reducible refine gate_dst (N := 4) rfl ?_); refine box_event ?hg (N := 4) ?hd (cs := #[.bool false, .bool false, .int .i64 0]) (t := 46) ?hr ?_; (case hd => rfl); (case hg => rfl); (case hr => first | (go_simp; done) | (go_simp; rfl)); intro gb259 hg w4 hbox hb; have BK259 := Aside0.mk (hbox); have GW259 := Aside0.mk (gz hg : w.heap.size ≤ gb259); have GE259 := Aside0.mk (gz hg : w.heap.size ≤ gb259); replace HB := Aside0.mk (below_step bl hb); have NB258_259 := Aside0.mk (nl hg BK258.out : gb258 ≠ gb259); have NB259_258 := Aside0.mk (ng hg BK258.out : gb259 ≠ gb258); replace BK258 := Aside0.mk (kb BK258.out hb); clear hb hbox hg; have hnb5 := NB259_258.out; have hnc5 := NB258_259.out; have hcz6_0 := cz BK259.out 0 (.bool false); have hcz6_1 := cz BK259.out 1 (.bool false); have hcz6_2 := cz BK259.out 2 (.int .i64 0); have hfz6_0 := blk_frozen BK259.out 0; have hfz6_1 := blk_frozen BK259.out 1; have hfz6_2 := blk_frozen BK259.out 2; have hcz7_0 := cz BK258.out 0 (.bool false); have hcz7_1 := cz BK258.out 1 (.bool false); have hcz7_2 := cz BK258.out 2 (.int .i64 0); have hfz7_0 := blk_frozen BK258.out 0; have hfz7_1 := blk_frozen BK258.out 1; have hfz7_2 := blk_frozen BK258.out 2))
  refine bodyPost_ret (results_ct rfl _ _ gb258 46 #[.bool false, .bool false, .int .i64 0] (0, 0) _ rfl (by (with_reducible repeat (first | refine blk_drewN ?_ _ | refine blk_drew ?_ | refine blk_alloc ?_ _)); refine blk_put (cs := #[.bool false, .bool false, .int .i64 0]) ?_ 2 _ rfl; (with_reducible repeat (first | refine blk_drewN ?_ _ | refine blk_drew ?_ | refine blk_alloc ?_ _)); refine blk_put (cs := #[.bool false, .bool false, .int .i64 0]) ?_ 1 _ rfl; (with_reducible repeat (first | refine blk_drewN ?_ _ | refine blk_drew ?_ | refine blk_alloc ?_ _)); refine blk_put (cs := #[.bool false, .bool false, .int .i64 0]) ?_ 0 _ rfl; (with_reducible repeat (first | refine blk_drewN ?_ _ | refine blk_drew ?_ | refine blk_alloc ?_ _)); exact BK258.out) Tryz.underlying46 rfl kf) rfl ?_
  exact ⟨rf, bl⟩
 ·rw [if_neg c2] at H
  have c2b0 : (a0.toList == ([] : List UInt8)) = false := beq_eq_false_iff_ne.mpr c2
  have c2b1 : (a0.toList != ([] : List UInt8)) = true := bne_iff_ne.mpr c2
  by_cases c8 : 0 < (a0.size : Int)
  rotate_left
  ·rw [if_neg c8] at H
   exact ab H
  rw [if_pos c8] at H
  have c8b0 : decide (0 < (a0.size : Int)) = true := decide_eq_true c8
  have c8b1 : decide (0 < a0.size) = true := decide_eq_true (by omega)
  clear c8
  by_cases c10 : (bt a0 0) = 32
  ·rw [if_pos c10] at H
   have c10b0 : ((bt a0 0) == 32) = true := beq_iff_eq.mpr c10
   have c10b1 : ((bt a0 0) != 32) = false := bne_eq_false_iff_eq.mpr c10
   clear c10
   by_cases c11 : 1 ≤ (a0.size : Int)
   rotate_left
   ·rw [if_neg c11] at H
    exact ab H
   rw [if_pos c11] at H
   have c11b0 := eq_true c11
   have c11b1 : decide (1 ≤ (a0.size : Int)) = true := decide_eq_true c11
   clear c11
   obtain ⟨t260, A120, H⟩ := Option.bind_eq_some_iff.mp H
   replace H : (path_ParseParams.l0 k 0 ([] : List ByteArray) t260 (t260.length : Int) 0 false false 0) = some (r1, r2, r3, r4) := H
   have A12 := Aside0.mk A120
   clear A120
   have H' := Aside0.mk H
   clear H
   go_enter Tryz.func17, Tryz.ntmps17
   go_wp2_with (first | ((with_reducible refine gate_dst (N := 2) rfl ?_); refine box_event ?hg (N := 2) ?hd (cs := #[.bool false, .bool false, .int .i64 0]) (t := 46) ?hr ?_; (case hd => rfl); (case hg => rfl); (case hr => first | (go_simp; done) | (go_simp; rfl)); intro gb258 hg w13 hbox hb; have BK258 := Aside0.mk (hbox); have GW258 := Aside0.mk (gz hg : w.heap.size ≤ gb258); have GE258 := Aside0.mk (gz hg : w.heap.size ≤ gb258); replace HB := Aside0.mk (below_step bl hb); clear hb hbox hg) | ((with_reducible refine gate_dst (N := 4) rfl ?_); refine box_event ?hg (N := 4) ?hd (cs := #[.bool false, .bool false, .int .i64 0]) (t := 46) ?hr ?_; (case hd => rfl); (case hg => rfl); (case hr => first | (go_simp; done) | (go_simp; rfl)); intro gb259 hg w14 hbox hb; have BK259 := Aside0.mk (hbox); have GW259 := Aside0.mk (gz hg : w.heap.size ≤ gb259); have GE259 := Aside0.mk (gz hg : w.heap.size ≤ gb259); replace HB := Aside0.mk (below_step bl hb); have NB258_259 := Aside0.mk (nl hg BK258.out : gb258 ≠ gb259); have NB259_258 := Aside0.mk (ng hg BK258.out : gb259 ≠ gb258); replace BK258 := Aside0.mk (kb BK258.out hb); clear hb hbox hg; have p9 : 0 ≤ (0 : Int) := (by omega); have q9 : 0 < a0.size := (by have : (0 : Int) < (a0.size : Int) := od; omega); have hx9 : ∀ h : 0 < a0.size, ((a0[0]'h).toNat : Int) = bt a0 0 := bt_at a0 0; clear p9; have qi9 : (0 < (a0.size : Int)) = True := eq_true (od); replace q9 := eq_true q9) | ((with_reducible refine gate_callee (f := 43) rfl ?_); refine goesL_ (some 25) rfl rfl Tryz.func43 kf rfl #[.string (a0.extract 1 a0.size), .int .u8 32] rfl ml ?_; (with_reducible refine (text_Split.calls k (a0.extract 1 a0.size) 32 t260 _ A12.out).mono ?_); rintro e w15 ⟨v261, rfl, ho0, hb⟩; refine ⟨_, rfl, ?_⟩; have HO262 := Aside0.mk (Kd.R_lower ho0 (below_size bl)); replace BK258 := Aside0.mk (kb BK258.out hb); replace BK259 := Aside0.mk (kb BK259.out hb); replace HB := Aside0.mk (below_step bl hb); (try clear hb); (try clear hb2); (try clear hk); (try clear hi); (try clear ho0); obtain ⟨Ao16, co16, eo16⟩ := Kd.R_slice HO262.out; subst eo16))
   go_loopg [5, 6, 27] k (fun kq v5 v6 v27 w' => ∃ (x5_1 : Int) (x6_1 : List ByteArray) (x27_1 : Int) (x259000_1 : Bool) (x259001_1 : Bool) (x259002_1 : Int) (x260000_1 : Bool) (x260001_1 : Bool) (x260002_1 : Int), v5 = .int .i64 x5_1 ∧ v27 = .int .i64 x27_1 ∧ Aside0 (path_ParseParams.l0 kq x5_1 x6_1 t260 (t260.length : Int) x27_1 x260000_1 x260001_1 x260002_1 = some (r1, r2, r3, r4)) ∧ Aside0 (kq ≤ k) ∧ Aside0 (Kd.R Kd.string 9 w' w.heap.size (fun k_ => some k_ ≠ ((.slice Ao16 t260.length co16) : Value).ownBlock) v6 x6_1) ∧ Aside0 (Kd.R Kd.string 9 w' w.heap.size (fun k_ => some k_ ≠ (v6 : Value).ownBlock) (.slice Ao16 t260.length co16) t260) ∧ Aside0 (w'.heap[gb258]? = some (.cells #[.bool x259000_1, .bool x259001_1, .int .i64 x259002_1] 46 (0, 0))) ∧ Aside0 (w'.heap[gb259]? = some (.cells #[.bool x260000_1, .bool x260001_1, .int .i64 x260002_1] 46 (0, 0))) ∧ Aside0 (Below w.heap.size w w'))
   case atStart => exact ⟨(0), (([] : List ByteArray)), (0), (false), (false), (0), (false), (false), (0), rs, rs, H', ⟨Nat.le_refl _⟩, ⟨by first | exact Kd.R_nil _ _ _ _ _ | exact Kd.N_nil _ _ _ _ _ | exact Kd.V_nil _ _ _ _ _ | exact Kd.Q_nil _ _ _ _ _ | exact Kd.S_nil _ _ _ _ _⟩, ⟨by (with_reducible repeat (first | apply Kd.R_alloc | apply Kd.R_drewN | apply Kd.R_drew)); exact Kd.R_mono HO262.out (fun _ hk => (by simp [Value.ownBlock]))⟩, ⟨bk BK258.out⟩, ⟨bk BK259.out⟩, ⟨bl⟩⟩
   case round =>
    clear H'
    try clear c1
    try clear c2
    try clear c2b0
    try clear c2b1
    try clear p2
    try clear c4
    try clear c5
    try clear c8
    try clear c8b0
    try clear c8b1
    try clear p9
    try clear q9
    try clear hx9
    try clear qi9
    try clear c10
    try clear c10b0
    try clear c10b1
    try clear c11
    try clear c11b0
    try clear c11b1
    try clear hcz6_0
    try clear hcz6_1
    try clear hcz6_2
    try clear hcz7_0
    try clear hcz7_1
    try clear hcz7_2
    try clear hfz6_0
    try clear hfz6_1
    try clear hfz6_2
    try clear hfz7_0
    try clear hfz7_1
    try clear hfz7_2
    try clear p9
    try clear q9
    obtain ⟨x5_1, x6_1, x27_1, x259000_1, x259001_1, x259002_1, x260000_1, x260001_1, x260002_1, rfl, rfl, HA, HK1, HO_6, HO_25, BK258, BK259, HB⟩ := hrel
    cases gk with
    | zero => exact absurd HA.out (by simp [path_ParseParams.l0])
    | succ k1 =>
     have H := HA.out
     clear HA
     simp only [path_ParseParams.l0] at H
     by_cases c17 : x27_1 < (t260.length : Int)
     ·rw [if_pos c17] at H
      have c17b0 : decide (x27_1 < (t260.length : Int)) = true := decide_eq_true c17
      clear c17
      by_cases c18 : 0 ≤ x27_1
      rotate_left
      ·rw [if_neg c18] at H
       exact ab H
      rw [if_pos c18] at H
      have c18b0 : decide (0 ≤ x27_1) = true := decide_eq_true c18
      clear c18
      by_cases c19 : x27_1 < (t260.length : Int)
      rotate_left
      ·rw [if_neg c19] at H
       exact ab H
      rw [if_pos c19] at H
      have c19b0 : decide (x27_1 < (t260.length : Int)) = true := decide_eq_true c19
      clear c19
      obtain ⟨⟨t264, t265, t266, t267⟩, A200, H⟩ := Option.bind_eq_some_iff.mp H
      replace H : ((path_ParseParams_of.f t264).bind fun bt268 => (if bt268.2 = true then (if t266 = true then ((slices_Contains_string_string.f x6_1 t264).bind fun t270 => (path_ParseParams.j1 k1 x5_1 x6_1 t264 t265 t266 t267 bt268.1 bt268.2 1 t260 (t260.length : Int) x27_1 (!t270) x260000_1 x260001_1 x260002_1)) else (path_ParseParams.j1 k1 x5_1 x6_1 t264 t265 t266 t267 bt268.1 bt268.2 1 t260 (t260.length : Int) x27_1 false x260000_1 x260001_1 x260002_1)) else (path_ParseParams.j1 k1 x5_1 x6_1 t264 t265 t266 t267 bt268.1 bt268.2 1 t260 (t260.length : Int) x27_1 false x260000_1 x260001_1 x260002_1))) = some (r1, r2, r3, r4) := H
      have A20 := Aside0.mk A200
      clear A200
      obtain ⟨⟨t268, t269⟩, A210, H⟩ := Option.bind_eq_some_iff.mp H
      replace H : (if t269 = true then (if t266 = true then ((slices_Contains_string_string.f x6_1 t264).bind fun t270 => (path_ParseParams.j1 k1 x5_1 x6_1 t264 t265 t266 t267 t268 t269 1 t260 (t260.length : Int) x27_1 (!t270) x260000_1 x260001_1 x260002_1)) else (path_ParseParams.j1 k1 x5_1 x6_1 t264 t265 t266 t267 t268 t269 1 t260 (t260.length : Int) x27_1 false x260000_1 x260001_1 x260002_1)) else (path_ParseParams.j1 k1 x5_1 x6_1 t264 t265 t266 t267 t268 t269 1 t260 (t260.length : Int) x27_1 false x260000_1 x260001_1 x260002_1)) = some (r1, r2, r3, r4) := H
      have A21 := Aside0.mk A210
      clear A210
      have HC22 := Aside0.mk H
      clear H
      have p263 : 0 ≤ (x27_1 : Int) := od
      have q263 : x27_1 < (t260.length : Int) := od
      obtain ⟨ad263, e263, hx263_0⟩ := Kd.at_string (Kd.R_reads' HO_25.out).2.2 x27_1 p263 q263
      cases e263
      replace p263 := eq_true p263
      replace q263 := eq_true q263
      go_upto_region 14 with (first | ((with_reducible refine gate_callee (f := 44) rfl ?_); refine goesL_ (some 33) rfl rfl Tryz.func44 kf rfl #[.string (rdOf ByteArray.empty t260 x27_1)] rfl ml ?_; (with_reducible refine (path_parts.calls (rdOf ByteArray.empty t260 x27_1) t264 t265 t266 t267 _ ?side1 A20.out).mono ?_); (case side1 => exact Glob.below HG.out bl); rintro e w23 ⟨rfl, hb⟩; refine ⟨_, rfl, ?_⟩; replace HO_6 := Aside0.mk (Kd.R_below (kr HO_6.out) hb); replace HO_25 := Aside0.mk (Kd.R_below (kr HO_25.out) hb); replace BK258 := Aside0.mk (kb BK258.out hb); replace BK259 := Aside0.mk (kb BK259.out hb); replace HB := Aside0.mk (below_step bl hb); (try clear hb); (try clear hb2); (try clear hk); (try clear hi); obtain ⟨bS_, hS0_, hS1_⟩ := says_now HG.out HB.out A21.out (parts_size A20.out)))
      (try simp only [Act.put, sA, sB, sC])
      go_cut [53] (fun v53 wc => ∃ (kq : Nat) (x53_21 : Bool), v53 = .bool x53_21 ∧ Aside0 (path_ParseParams.j1 kq x5_1 x6_1 t264 t265 t266 t267 t268 t269 1 t260 (t260.length : Int) x27_1 x53_21 x260000_1 x260001_1 x260002_1 = some (r1, r2, r3, r4)) ∧ Aside0 (kq ≤ k1) ∧ Aside0 (Kd.R Kd.string 9 wc w.heap.size (fun k_ => some k_ ≠ ((.slice (some ad263) t260.length co16) : Value).ownBlock) u6 x6_1) ∧ Aside0 (Kd.R Kd.string 9 wc w.heap.size (fun k_ => some k_ ≠ (u6 : Value).ownBlock) (.slice (some ad263) t260.length co16) t260) ∧ Aside0 (wc.heap[gb258]? = some (.cells #[.bool x259000_1, .bool x259001_1, .int .i64 x259002_1] 46 (0, 0))) ∧ Aside0 (wc.heap[gb259]? = some (.cells #[.bool x260000_1, .bool x260001_1, .int .i64 x260002_1] 46 (0, 0))) ∧ Aside0 (Below w.heap.size w wc))
      case first =>
       have H := HC22.out
       clear HC22
       by_cases c24 : t269 = true
       ·subst c24
        replace H : (if t266 = true then ((slices_Contains_string_string.f x6_1 t264).bind fun t270 => (path_ParseParams.j1 k1 x5_1 x6_1 t264 t265 t266 t267 t268 true 1 t260 (t260.length : Int) x27_1 (!t270) x260000_1 x260001_1 x260002_1)) else (path_ParseParams.j1 k1 x5_1 x6_1 t264 t265 t266 t267 t268 true 1 t260 (t260.length : Int) x27_1 false x260000_1 x260001_1 x260002_1)) = some (r1, r2, r3, r4) := by rw [if_pos rfl] at H; exact H
        by_cases c25 : t266 = true
        ·subst c25
         replace H : ((slices_Contains_string_string.f x6_1 t264).bind fun t270 => (path_ParseParams.j1 k1 x5_1 x6_1 t264 t265 true t267 t268 true 1 t260 (t260.length : Int) x27_1 (!t270) x260000_1 x260001_1 x260002_1)) = some (r1, r2, r3, r4) := by rw [if_pos rfl] at H; exact H
         obtain ⟨t270, A260, H⟩ := Option.bind_eq_some_iff.mp H
         replace H : (path_ParseParams.j1 k1 x5_1 x6_1 t264 t265 true t267 t268 true 1 t260 (t260.length : Int) x27_1 (!t270) x260000_1 x260001_1 x260002_1) = some (r1, r2, r3, r4) := H
         have A26 := Aside0.mk A260
         clear A260
         have H' := Aside0.mk H
         clear H
         obtain ⟨Ao27, co27, eo27⟩ := Kd.R_slice HO_6.out
         subst eo27
         go_wp2_with (first | (go_at_call 45; (with_reducible refine (slices_Contains_string_string.calls _ _ x6_1 t264 t270 _ ?side1 ?side2 A26.out).mono ?_); (case side1 => repeat (first | exact (Kd.R_reads' HO_6.out).2.2 | (with_reducible refine Kd.C_alloc ?_ _) | (with_reducible refine Kd.C_drewN ?_ _) | (with_reducible refine Kd.C_drew ?_))); (case side2 => exact (Kd.R_reads' HO_6.out).2.1); rintro e w' ⟨rfl, ⟨nd, rfl⟩⟩))
         go_meet
         case rel => exact ⟨_, (!t270), rs, H', ⟨by have := HK1.out; first | omega | exact Nat.le_refl _⟩, ⟨kr HO_6.out⟩, ⟨kr HO_25.out⟩, ⟨bk BK258.out⟩, ⟨bk BK259.out⟩, ⟨bl⟩⟩
        ·replace c25 := Bool.eq_false_iff.mpr c25
         subst c25
         replace H : (path_ParseParams.j1 k1 x5_1 x6_1 t264 t265 false t267 t268 true 1 t260 (t260.length : Int) x27_1 false x260000_1 x260001_1 x260002_1) = some (r1, r2, r3, r4) := by rw [if_neg (show ¬ (false = true) by decide)] at H; exact H
         have H' := Aside0.mk H
         clear H
         go_wp2
         go_meet
         case rel => exact ⟨_, (false), rs, H', ⟨by have := HK1.out; first | omega | exact Nat.le_refl _⟩, ⟨kr HO_6.out⟩, ⟨kr HO_25.out⟩, ⟨bk BK258.out⟩, ⟨bk BK259.out⟩, ⟨bl⟩⟩
       ·replace c24 := Bool.eq_false_iff.mpr c24
        subst c24
        replace H : (path_ParseParams.j1 k1 x5_1 x6_1 t264 t265 t266 t267 t268 false 1 t260 (t260.length : Int) x27_1 false x260000_1 x260001_1 x260002_1) = some (r1, r2, r3, r4) := by rw [if_neg (show ¬ (false = true) by decide)] at H; exact H
        have H' := Aside0.mk H
        clear H
        go_wp2
        go_meet
        case rel => exact ⟨_, (false), rs, H', ⟨by have := HK1.out; first | omega | exact Nat.le_refl _⟩, ⟨kr HO_6.out⟩, ⟨kr HO_25.out⟩, ⟨bk BK258.out⟩, ⟨bk BK259.out⟩, ⟨bl⟩⟩
      case rest =>
       clear HC22
       try clear c1
       try clear c2
       try clear c2b0
       try clear c2b1
       try clear p2
       try clear q2
       try clear hx2
       try clear c4
       try clear c5
       try clear c8
       try clear c8b0
       try clear c8b1
       try clear p9
       try clear q9
       try clear hx9
       try clear qi9
       try clear c10
       try clear c10b0
       try clear c10b1
       try clear c11
       try clear c11b0
       try clear c11b1
       try clear c17
       try clear c17b0
       try clear c18
       try clear c18b0
       try clear c19
       try clear c19b0
       try clear c24
       try clear c25
       try clear p26
       try clear q26
       try clear hx26
       try clear hcz6_0
       try clear hcz6_1
       try clear hcz6_2
       try clear hcz7_0
       try clear hcz7_1
       try clear hcz7_2
       try clear hfz6_0
       try clear hfz6_1
       try clear hfz6_2
       try clear hfz7_0
       try clear hfz7_1
       try clear hfz7_2
       try clear hx263_0
       try clear p2
       try clear p263
       try clear p9
       try clear q263
       try clear q9
       obtain ⟨kq, x53_21, rfl, HA, HJ21, HO_6, HO_25, BK258, BK259, HB⟩ := hcut
       cases kq with
       | zero => exact absurd HA.out (by simp [path_ParseParams.j1])
       | succ kj21 =>
        have H := HA.out
        clear HA
        simp only [path_ParseParams.j1] at H
        by_cases c28 : x53_21 = true
        ·subst c28
         replace H : ((path_ParseParams_run.f t268 x260000_1 x260001_1 x260002_1 t265).bind fun bt271 => (if t267 = true then (if bt271.2.2.2 = 5 then (some (false, false, 0, 5)) else (if x6_1.length < 8796093022208 then (path_ParseParams.l0 kj21 (mx x5_1 bt271.2.2.2) (x6_1 ++ [t264]) t260 (t260.length : Int) (wrap64 (x27_1 + 1)) bt271.1 bt271.2.1 bt271.2.2.1) else (none))) else (some (false, false, 0, 5)))) = some (r1, r2, r3, r4) := by rw [if_pos rfl] at H; exact H
         obtain ⟨⟨t271, t272, t273, t274⟩, A290, H⟩ := Option.bind_eq_some_iff.mp H
         replace H : (if t267 = true then (if t274 = 5 then (some (false, false, 0, 5)) else (if x6_1.length < 8796093022208 then (path_ParseParams.l0 kj21 (mx x5_1 t274) (x6_1 ++ [t264]) t260 (t260.length : Int) (wrap64 (x27_1 + 1)) t271 t272 t273) else (none))) else (some (false, false, 0, 5))) = some (r1, r2, r3, r4) := H
         have A29 := Aside0.mk A290
         clear A290
         by_cases c30 : t267 = true
         ·subst c30
          replace H : (if t274 = 5 then (some (false, false, 0, 5)) else (if x6_1.length < 8796093022208 then (path_ParseParams.l0 kj21 (mx x5_1 t274) (x6_1 ++ [t264]) t260 (t260.length : Int) (wrap64 (x27_1 + 1)) t271 t272 t273) else (none))) = some (r1, r2, r3, r4) := by rw [if_pos rfl] at H; exact H
          by_cases c31 : t274 = 5
          ·rw [if_pos c31] at H
           have c31b0 : (t274 == 5) = true := beq_iff_eq.mpr c31
           have c31b1 : (t274 != 5) = false := bne_eq_false_iff_eq.mpr c31
           clear c31
           simp only [Option.some.injEq, Prod.mk.injEq] at H
           obtain ⟨rfl, rfl, rfl, rfl⟩ := H
           have hnb32 := NB259_258.out
           have hnc32 := NB258_259.out
           have hcz33_0 := cz BK259.out 0 (.bool x260000_1)
           have hcz33_1 := cz BK259.out 1 (.bool x260001_1)
           have hcz33_2 := cz BK259.out 2 (.int .i64 x260002_1)
           have hfz33_0 := blk_frozen BK259.out 0
           have hfz33_1 := blk_frozen BK259.out 1
           have hfz33_2 := blk_frozen BK259.out 2
           obtain ⟨nS_, fS_, hfS_, hfn_, hnn_, hnb_, hcS_⟩ := path_ParseParams_run.one A29.out
           go_wp2_with (first | ((with_reducible refine gate_callv (c := .tmp 54) rfl ?_); refine goesV_ (some 56) rfl rfl (c := .tmp 54) (by first | exact hfS_ | rfl) hfn_ hnn_ hnb_ #[.pointer (some ⟨gb259, 0, none⟩), .string t265] rfl ml ?_; (refine (hcS_ gb259 _ (bk BK259.out)).mono ?_); rintro e w_ ⟨rfl, w34, hb, rfl⟩; refine ⟨_, rfl, ?_⟩; replace HO_6 := Aside0.mk (Kd.R_below (kr HO_6.out) hb); replace HO_25 := Aside0.mk (Kd.R_below (kr HO_25.out) hb); replace BK258 := Aside0.mk (kb BK258.out hb); replace BK259 := Aside0.mk (kb BK259.out hb); replace HB := Aside0.mk (below_step bl hb); (try clear hb); (try clear hb2); (try clear hk); (try clear hi); have hcz35_0 := cz BK259.out 0 (.bool x260000_1); have hcz35_1 := cz BK259.out 1 (.bool x260001_1); have hcz35_2 := cz BK259.out 2 (.int .i64 x260002_1); have hfz35_0 := blk_frozen BK259.out 0; have hfz35_1 := blk_frozen BK259.out 1; have hfz35_2 := blk_frozen BK259.out 2; have hcz36_0 := cz BK258.out 0 (.bool x259000_1); have hcz36_1 := cz BK258.out 1 (.bool x259001_1); have hcz36_2 := cz BK258.out 2 (.int .i64 x259002_1); have hfz36_0 := blk_frozen BK258.out 0; have hfz36_1 := blk_frozen BK258.out 1; have hfz36_2 := blk_frozen BK258.out 2))
           refine bodyPost_ret (results_ct rfl _ _ gb258 46 #[.bool false, .bool false, .int .i64 0] (0, 0) _ rfl (by (with_reducible repeat (first | refine blk_drewN ?_ _ | refine blk_drew ?_ | refine blk_alloc ?_ _)); refine blk_put (cs := #[.bool false, .bool false, .int .i64 x259002_1]) ?_ 2 _ rfl; (with_reducible repeat (first | refine blk_drewN ?_ _ | refine blk_drew ?_ | refine blk_alloc ?_ _)); refine blk_put (cs := #[.bool false, .bool x259001_1, .int .i64 x259002_1]) ?_ 1 _ rfl; (with_reducible repeat (first | refine blk_drewN ?_ _ | refine blk_drew ?_ | refine blk_alloc ?_ _)); refine blk_put (cs := #[.bool x259000_1, .bool x259001_1, .int .i64 x259002_1]) ?_ 0 _ rfl; (with_reducible repeat (first | refine blk_drewN ?_ _ | refine blk_drew ?_ | refine blk_alloc ?_ _)); refine blk_far ?_ NB258_259.out _; (with_reducible repeat (first | refine blk_drewN ?_ _ | refine blk_drew ?_ | refine blk_alloc ?_ _)); refine blk_far ?_ NB258_259.out _; (with_reducible repeat (first | refine blk_drewN ?_ _ | refine blk_drew ?_ | refine blk_alloc ?_ _)); refine blk_far ?_ NB258_259.out _; (with_reducible repeat (first | refine blk_drewN ?_ _ | refine blk_drew ?_ | refine blk_alloc ?_ _)); exact BK258.out) Tryz.underlying46 rfl kf) rfl ?_
           exact ⟨rf, bl⟩
          ·rw [if_neg c31] at H
           have c31b0 : (t274 == 5) = false := beq_eq_false_iff_ne.mpr c31
           have c31b1 : (t274 != 5) = true := bne_iff_ne.mpr c31
           obtain ⟨ji37, hji37⟩ : ∃ j_ : Int, (mx x5_1 t274) = j_ := ⟨_, rfl⟩
           replace H : (if x6_1.length < 8796093022208 then (path_ParseParams.l0 kj21 ji37 (x6_1 ++ [t264]) t260 (t260.length : Int) (wrap64 (x27_1 + 1)) t271 t272 t273) else (none)) = some (r1, r2, r3, r4) := by first | (rw [hji37] at H; exact H) | (simp only [hji37] at H ⊢; exact H)
           (try rw [hji37] at A29)
           have hji37_ : (if x5_1 < t274 then t274 else x5_1) = ji37 := hji37
           by_cases c38 : x6_1.length < 8796093022208
           rotate_left
           ·rw [if_neg c38] at H
            exact ab H
           rw [if_pos c38] at H
           have LMc38 := Aside0.mk c38
           clear c38
           obtain ⟨y275, hy275⟩ : ∃ y_ : List ByteArray, y_ = (x6_1 ++ [t264]) := ⟨_, rfl⟩
           replace H : (path_ParseParams.l0 kj21 ji37 y275 t260 (t260.length : Int) (wrap64 (x27_1 + 1)) t271 t272 t273) = some (r1, r2, r3, r4) := by first | (rw [hy275]; with_reducible exact H) | (have H2_ := (Option.bind_some _ _).symm.trans H; rw [hy275]; with_reducible exact H2_) | (have H2_ := (Option.bind_some _ _).symm.trans H; with_reducible exact H2_) | with_reducible exact H | (rw [hy275]; exact H) | exact H
           have Ny275 := Aside0.mk hy275
           clear hy275
           have H' := Aside0.mk H
           clear H
           have hnb39 := NB259_258.out
           have hnc39 := NB258_259.out
           have hcz40_0 := cz BK259.out 0 (.bool x260000_1)
           have hcz40_1 := cz BK259.out 1 (.bool x260001_1)
           have hcz40_2 := cz BK259.out 2 (.int .i64 x260002_1)
           have hfz40_0 := blk_frozen BK259.out 0
           have hfz40_1 := blk_frozen BK259.out 1
           have hfz40_2 := blk_frozen BK259.out 2
           obtain ⟨nS_, fS_, hfS_, hfn_, hnn_, hnb_, hcS_⟩ := path_ParseParams_run.one A29.out
           go_wp2_with (first | ((with_reducible refine gate_callv (c := .tmp 54) rfl ?_); refine goesV_ (some 56) rfl rfl (c := .tmp 54) (by first | exact hfS_ | rfl) hfn_ hnn_ hnb_ #[.pointer (some ⟨gb259, 0, none⟩), .string t265] rfl ml ?_; (refine (hcS_ gb259 _ (bk BK259.out)).mono ?_); rintro e w_ ⟨rfl, w41, hb, rfl⟩; refine ⟨_, rfl, ?_⟩; replace HO_6 := Aside0.mk (Kd.R_below (kr HO_6.out) hb); replace HO_25 := Aside0.mk (Kd.R_below (kr HO_25.out) hb); replace BK258 := Aside0.mk (kb BK258.out hb); replace BK259 := Aside0.mk (kb BK259.out hb); replace HB := Aside0.mk (below_step bl hb); (try clear hb); (try clear hb2); (try clear hk); (try clear hi); have hcz42_0 := cz BK259.out 0 (.bool x260000_1); have hcz42_1 := cz BK259.out 1 (.bool x260001_1); have hcz42_2 := cz BK259.out 2 (.int .i64 x260002_1); have hfz42_0 := blk_frozen BK259.out 0; have hfz42_1 := blk_frozen BK259.out 1; have hfz42_2 := blk_frozen BK259.out 2) | ((with_reducible refine gate_builtin (b := .append) (xs := #[.tmp 80, .tmp 82]) rfl ?_); at_builtin; refine Kd.R_append Kd.string (w0 := w) w.heap.size rfl (.tmp 80) (.tmp 82) 22 9 (.string ⟨#[]⟩) 16 rfl Tryz.underlying22 info9 rfl (by decide) (by omega) u6 x6_1 t264 [.string t264] (fun k_ => some k_ ≠ (.slice (some ad263) t260.length co16 : Value).ownBlock) (fun _ => False) rfl (by first | (go_simp; done) | (go_simp; rfl)) ?aP (fun _ hk => hk.elim) ?aF ?aO ?aB ?aS ?aL ?_; (case aP => exact rfl); (case aB => exact bl); (case aF => exact (fun k_ hk => Kd.fresh' (Kd.R_lt (by (with_reducible repeat (first | apply Kd.R_alloc | apply Kd.R_drewN | apply Kd.R_drew)); exact (Kd.R_mono (Kd.R_far (p := ⟨gb259, 2, none⟩) (Kd.R_far (p := ⟨gb259, 1, none⟩) (Kd.R_far (p := ⟨gb259, 0, none⟩) (Kd.R_types HO_25.out BK259.out (by decide)) (fun _ hk => hk.2) (.bool t271)) (fun _ hk => hk.2) (.bool t272)) (fun _ hk => hk.2) (.int .i64 t273)) (fun _ h_ => h_.1)))) k_ hk)); (case aO => exact (by (with_reducible repeat (first | apply Kd.R_alloc | apply Kd.R_drewN | apply Kd.R_drew)); exact Kd.R_mono (Kd.R_far (p := ⟨gb259, 2, none⟩) (Kd.R_far (p := ⟨gb259, 1, none⟩) (Kd.R_far (p := ⟨gb259, 0, none⟩) (Kd.R_types HO_6.out BK259.out (by decide)) (fun _ hk => hk.2) (.bool t271)) (fun _ hk => hk.2) (.bool t272)) (fun _ hk => hk.2) (.int .i64 t273)) (fun _ hk => hk.1))); (case aS => exact (below_size bl)); (case aL => have := LMc38.out; omega); intro v276 w43 ho hb hg hat; rw [← Ny275.out] at ho; replace HO_25 := Aside0.mk (Kd.R_after (ok := (fun _ => True)) (by (with_reducible repeat (first | apply Kd.R_alloc | apply Kd.R_drewN | apply Kd.R_drew)); exact Kd.R_mono (Kd.R_far (p := ⟨gb259, 2, none⟩) (Kd.R_far (p := ⟨gb259, 1, none⟩) (Kd.R_far (p := ⟨gb259, 0, none⟩) (Kd.R_types HO_25.out BK259.out (by decide)) (fun _ hk => hk.2) (.bool t271)) (fun _ hk => hk.2) (.bool t272)) (fun _ hk => hk.2) (.int .i64 t273)) (fun _ hk => ⟨trivial, hk.1⟩)) hg hat); replace BK258 := Aside0.mk (blk_grown (g := gb258) (o := .cells #[.bool x259000_1, .bool x259001_1, .int .i64 x259002_1] 46 (0, 0)) (bk BK258.out) hg (Kd.R_ne HO_6.out BK258.out (by decide))); replace BK259 := Aside0.mk (blk_grown (g := gb259) (o := .cells #[.bool t271, .bool t272, .int .i64 t273] 46 (0, 0)) (by (with_reducible repeat (first | refine blk_drewN ?_ _ | refine blk_drew ?_ | refine blk_alloc ?_ _)); refine blk_put (cs := #[.bool t271, .bool t272, .int .i64 x260002_1]) ?_ 2 _ rfl; (with_reducible repeat (first | refine blk_drewN ?_ _ | refine blk_drew ?_ | refine blk_alloc ?_ _)); refine blk_put (cs := #[.bool t271, .bool x260001_1, .int .i64 x260002_1]) ?_ 1 _ rfl; (with_reducible repeat (first | refine blk_drewN ?_ _ | refine blk_drew ?_ | refine blk_alloc ?_ _)); refine blk_put (cs := #[.bool x260000_1, .bool x260001_1, .int .i64 x260002_1]) ?_ 0 _ rfl; (with_reducible repeat (first | refine blk_drewN ?_ _ | refine blk_drew ?_ | refine blk_alloc ?_ _)); exact BK259.out) hg (Kd.R_ne HO_6.out BK259.out (by decide))); replace HB := Aside0.mk (hb); have HO277 := Aside0.mk (ho); clear HO_6 ho hb hg hat))
           go_roundg kj21
           case measure => have := HK1.out; have := HJ21.out; omega
           case rel => exact ⟨(ji37), (y275), (wrap64 (x27_1 + 1)), (x259000_1), (x259001_1), (x259002_1), (t271), (t272), (t273), (by first | rfl | (simp; done) | (simp only [← hji37] <;> (first | rfl | simp)) | (simp [*]; done)), rs, H', ⟨by have := HK1.out; have := HJ21.out; omega⟩, ⟨kr HO277.out⟩, ⟨by (with_reducible repeat (first | apply Kd.R_alloc | apply Kd.R_drewN | apply Kd.R_drew)); exact Kd.R_mono HO_25.out (fun _ hk => hk.2)⟩, ⟨bk BK258.out⟩, ⟨bk BK259.out⟩, ⟨bl⟩⟩
         ·replace c30 := Bool.eq_false_iff.mpr c30
          subst c30
          replace H : (some (false, false, 0, 5)) = some (r1, r2, r3, r4) := by rw [if_neg (show ¬ (false = true) by decide)] at H; exact H
          simp only [Option.some.injEq, Prod.mk.injEq] at H
          obtain ⟨rfl, rfl, rfl, rfl⟩ := H
          have hnb44 := NB259_258.out
          have hnc44 := NB258_259.out
          have hcz45_0 := cz BK259.out 0 (.bool x260000_1)
          have hcz45_1 := cz BK259.out 1 (.bool x260001_1)
          have hcz45_2 := cz BK259.out 2 (.int .i64 x260002_1)
          have hfz45_0 := blk_frozen BK259.out 0
          have hfz45_1 := blk_frozen BK259.out 1
          have hfz45_2 := blk_frozen BK259.out 2
          obtain ⟨nS_, fS_, hfS_, hfn_, hnn_, hnb_, hcS_⟩ := path_ParseParams_run.one A29.out
          go_wp2_with (first | ((with_reducible refine gate_callv (c := .tmp 54) rfl ?_); refine goesV_ (some 56) rfl rfl (c := .tmp 54) (by first | exact hfS_ | rfl) hfn_ hnn_ hnb_ #[.pointer (some ⟨gb259, 0, none⟩), .string t265] rfl ml ?_; (refine (hcS_ gb259 _ (bk BK259.out)).mono ?_); rintro e w_ ⟨rfl, w46, hb, rfl⟩; refine ⟨_, rfl, ?_⟩; replace HO_6 := Aside0.mk (Kd.R_below (kr HO_6.out) hb); replace HO_25 := Aside0.mk (Kd.R_below (kr HO_25.out) hb); replace BK258 := Aside0.mk (kb BK258.out hb); replace BK259 := Aside0.mk (kb BK259.out hb); replace HB := Aside0.mk (below_step bl hb); (try clear hb); (try clear hb2); (try clear hk); (try clear hi); have hcz47_0 := cz BK259.out 0 (.bool x260000_1); have hcz47_1 := cz BK259.out 1 (.bool x260001_1); have hcz47_2 := cz BK259.out 2 (.int .i64 x260002_1); have hfz47_0 := blk_frozen BK259.out 0; have hfz47_1 := blk_frozen BK259.out 1; have hfz47_2 := blk_frozen BK259.out 2; have hcz48_0 := cz BK258.out 0 (.bool x259000_1); have hcz48_1 := cz BK258.out 1 (.bool x259001_1); have hcz48_2 := cz BK258.out 2 (.int .i64 x259002_1); have hfz48_0 := blk_frozen BK258.out 0; have hfz48_1 := blk_frozen BK258.out 1; have hfz48_2 := blk_frozen BK258.out 2))
          refine bodyPost_ret (results_ct rfl _ _ gb258 46 #[.bool false, .bool false, .int .i64 0] (0, 0) _ rfl (by (with_reducible repeat (first | refine blk_drewN ?_ _ | refine blk_drew ?_ | refine blk_alloc ?_ _)); refine blk_put (cs := #[.bool false, .bool false, .int .i64 x259002_1]) ?_ 2 _ rfl; (with_reducible repeat (first | refine blk_drewN ?_ _ | refine blk_drew ?_ | refine blk_alloc ?_ _)); refine blk_put (cs := #[.bool false, .bool x259001_1, .int .i64 x259002_1]) ?_ 1 _ rfl; (with_reducible repeat (first | refine blk_drewN ?_ _ | refine blk_drew ?_ | refine blk_alloc ?_ _)); refine blk_put (cs := #[.bool x259000_1, .bool x259001_1, .int .i64 x259002_1]) ?_ 0 _ rfl; (with_reducible repeat (first | refine blk_drewN ?_ _ | refine blk_drew ?_ | refine blk_alloc ?_ _)); refine blk_far ?_ NB258_259.out _; (with_reducible repeat (first | refine blk_drewN ?_ _ | refine blk_drew ?_ | refine blk_alloc ?_ _)); refine blk_far ?_ NB258_259.out _; (with_reducible repeat (first | refine blk_drewN ?_ _ | refine blk_drew ?_ | refine blk_alloc ?_ _)); refine blk_far ?_ NB258_259.out _; (with_reducible repeat (first | refine blk_drewN ?_ _ | refine blk_drew ?_ | refine blk_alloc ?_ _)); exact BK258.out) Tryz.underlying46 rfl kf) rfl ?_
          exact ⟨rf, bl⟩
        ·replace c28 := Bool.eq_false_iff.mpr c28
         subst c28
         replace H : (if t269 = true then (if t266 = true then (path_ParseParams.j2 kj21 x5_1 x6_1 t264 t265 t267 t268 1 t260 (t260.length : Int) x27_1 (t264.toList == ([115, 105, 122, 101] : List UInt8)) x260000_1 x260001_1 x260002_1) else (path_ParseParams.j2 kj21 x5_1 x6_1 t264 t265 t267 t268 1 t260 (t260.length : Int) x27_1 false x260000_1 x260001_1 x260002_1)) else (path_ParseParams.j2 kj21 x5_1 x6_1 t264 t265 t267 t268 1 t260 (t260.length : Int) x27_1 false x260000_1 x260001_1 x260002_1)) = some (r1, r2, r3, r4) := by rw [if_neg (show ¬ (false = true) by decide)] at H; exact H
         have HC49 := Aside0.mk H
         clear H
         go_upto_region 16 with (fail)
         go_cut [64] (fun v64 wc => ∃ (kq : Nat) (x64_48 : Bool), v64 = .bool x64_48 ∧ Aside0 (path_ParseParams.j2 kq x5_1 x6_1 t264 t265 t267 t268 1 t260 (t260.length : Int) x27_1 x64_48 x260000_1 x260001_1 x260002_1 = some (r1, r2, r3, r4)) ∧ Aside0 (kq ≤ kj21) ∧ Aside0 (Kd.R Kd.string 9 wc w.heap.size (fun k_ => some k_ ≠ ((.slice (some ad263) t260.length co16) : Value).ownBlock) u6 x6_1) ∧ Aside0 (Kd.R Kd.string 9 wc w.heap.size (fun k_ => some k_ ≠ (u6 : Value).ownBlock) (.slice (some ad263) t260.length co16) t260) ∧ Aside0 (wc.heap[gb258]? = some (.cells #[.bool x259000_1, .bool x259001_1, .int .i64 x259002_1] 46 (0, 0))) ∧ Aside0 (wc.heap[gb259]? = some (.cells #[.bool x260000_1, .bool x260001_1, .int .i64 x260002_1] 46 (0, 0))) ∧ Aside0 (Below w.heap.size w wc))
         case first =>
          have H := HC49.out
          clear HC49
          by_cases c50 : t269 = true
          ·subst c50
           replace H : (if t266 = true then (path_ParseParams.j2 kj21 x5_1 x6_1 t264 t265 t267 t268 1 t260 (t260.length : Int) x27_1 (t264.toList == ([115, 105, 122, 101] : List UInt8)) x260000_1 x260001_1 x260002_1) else (path_ParseParams.j2 kj21 x5_1 x6_1 t264 t265 t267 t268 1 t260 (t260.length : Int) x27_1 false x260000_1 x260001_1 x260002_1)) = some (r1, r2, r3, r4) := by rw [if_pos rfl] at H; exact H
           by_cases c51 : t266 = true
           ·subst c51
            replace H : (path_ParseParams.j2 kj21 x5_1 x6_1 t264 t265 t267 t268 1 t260 (t260.length : Int) x27_1 (t264.toList == ([115, 105, 122, 101] : List UInt8)) x260000_1 x260001_1 x260002_1) = some (r1, r2, r3, r4) := by rw [if_pos rfl] at H; exact H
            have H' := Aside0.mk H
            clear H
            go_wp2
            go_meet
            case rel => exact ⟨_, ((t264.toList == ([115, 105, 122, 101] : List UInt8))), rs, H', ⟨by have := HK1.out; have := HJ21.out; first | omega | exact Nat.le_refl _⟩, ⟨kr HO_6.out⟩, ⟨kr HO_25.out⟩, ⟨bk BK258.out⟩, ⟨bk BK259.out⟩, ⟨bl⟩⟩
           ·replace c51 := Bool.eq_false_iff.mpr c51
            subst c51
            replace H : (path_ParseParams.j2 kj21 x5_1 x6_1 t264 t265 t267 t268 1 t260 (t260.length : Int) x27_1 false x260000_1 x260001_1 x260002_1) = some (r1, r2, r3, r4) := by rw [if_neg (show ¬ (false = true) by decide)] at H; exact H
            have H' := Aside0.mk H
            clear H
            go_wp2
            go_meet
            case rel => exact ⟨_, (false), rs, H', ⟨by have := HK1.out; have := HJ21.out; first | omega | exact Nat.le_refl _⟩, ⟨kr HO_6.out⟩, ⟨kr HO_25.out⟩, ⟨bk BK258.out⟩, ⟨bk BK259.out⟩, ⟨bl⟩⟩
          ·replace c50 := Bool.eq_false_iff.mpr c50
           subst c50
           replace H : (path_ParseParams.j2 kj21 x5_1 x6_1 t264 t265 t267 t268 1 t260 (t260.length : Int) x27_1 false x260000_1 x260001_1 x260002_1) = some (r1, r2, r3, r4) := by rw [if_neg (show ¬ (false = true) by decide)] at H; exact H
           have H' := Aside0.mk H
           clear H
           go_wp2
           go_meet
           case rel => exact ⟨_, (false), rs, H', ⟨by have := HK1.out; have := HJ21.out; first | omega | exact Nat.le_refl _⟩, ⟨kr HO_6.out⟩, ⟨kr HO_25.out⟩, ⟨bk BK258.out⟩, ⟨bk BK259.out⟩, ⟨bl⟩⟩
         case rest =>
          clear HC49
          try clear c1
          try clear c2
          try clear c2b0
          try clear c2b1
          try clear p2
          try clear q2
          try clear hx2
          try clear c3
          try clear c4
          try clear c5
          try clear p6
          try clear c8
          try clear c8b0
          try clear c8b1
          try clear p9
          try clear q9
          try clear hx9
          try clear qi9
          try clear c10
          try clear c10b0
          try clear c10b1
          try clear c11
          try clear c11b0
          try clear c11b1
          try clear c17
          try clear c17b0
          try clear c18
          try clear c18b0
          try clear c19
          try clear c19b0
          try clear c24
          try clear c25
          try clear p26
          try clear q26
          try clear hx26
          try clear c28
          try clear c30
          try clear c31
          try clear c31b0
          try clear c31b1
          try clear c32
          try clear c38
          try clear c39
          try clear c43
          try clear c44
          try clear c50
          try clear c51
          try clear hcz33_0
          try clear hcz33_1
          try clear hcz33_2
          try clear hcz35_0
          try clear hcz35_1
          try clear hcz35_2
          try clear hcz36_0
          try clear hcz36_1
          try clear hcz36_2
          try clear hcz40_0
          try clear hcz40_1
          try clear hcz40_2
          try clear hcz42_0
          try clear hcz42_1
          try clear hcz42_2
          try clear hcz45_0
          try clear hcz45_1
          try clear hcz45_2
          try clear hcz47_0
          try clear hcz47_1
          try clear hcz47_2
          try clear hcz48_0
          try clear hcz48_1
          try clear hcz48_2
          try clear hcz6_0
          try clear hcz6_1
          try clear hcz6_2
          try clear hcz7_0
          try clear hcz7_1
          try clear hcz7_2
          try clear hfz33_0
          try clear hfz33_1
          try clear hfz33_2
          try clear hfz35_0
          try clear hfz35_1
          try clear hfz35_2
          try clear hfz36_0
          try clear hfz36_1
          try clear hfz36_2
          try clear hfz40_0
          try clear hfz40_1
          try clear hfz40_2
          try clear hfz42_0
          try clear hfz42_1
          try clear hfz42_2
          try clear hfz45_0
          try clear hfz45_1
          try clear hfz45_2
          try clear hfz47_0
          try clear hfz47_1
          try clear hfz47_2
          try clear hfz48_0
          try clear hfz48_1
          try clear hfz48_2
          try clear hfz6_0
          try clear hfz6_1
          try clear hfz6_2
          try clear hfz7_0
          try clear hfz7_1
          try clear hfz7_2
          try clear hx263_0
          try clear p2
          try clear p26
          try clear p263
          try clear p9
          try clear q2
          try clear q26
          try clear q263
          try clear q9
          obtain ⟨kq, x64_48, rfl, HA, HJ48, HO_6, HO_25, BK258, BK259, HB⟩ := hcut
          cases kq with
          | zero => exact absurd HA.out (by simp [path_ParseParams.j2])
          | succ kj48 =>
           have H := HA.out
           clear HA
           simp only [path_ParseParams.j2] at H
           by_cases c52 : x64_48 = true
           ·subst c52
            replace H : ((path_ParseParams_run.f t268 false false 0 t265).bind fun bt279 => (if t267 = true then (if (mx bt279.2.2.2 1) = 5 then (some (false, false, 0, 5)) else (if x6_1.length < 8796093022208 then (path_ParseParams.l0 kj48 (mx x5_1 (mx bt279.2.2.2 1)) (x6_1 ++ [t264]) t260 (t260.length : Int) (wrap64 (x27_1 + 1)) x260000_1 x260001_1 x260002_1) else (none))) else (some (false, false, 0, 5)))) = some (r1, r2, r3, r4) := by rw [if_pos rfl] at H; exact H
            obtain ⟨⟨t279, t280, t281, t282⟩, A530, H⟩ := Option.bind_eq_some_iff.mp H
            replace H : (if t267 = true then (if (mx t282 1) = 5 then (some (false, false, 0, 5)) else (if x6_1.length < 8796093022208 then (path_ParseParams.l0 kj48 (mx x5_1 (mx t282 1)) (x6_1 ++ [t264]) t260 (t260.length : Int) (wrap64 (x27_1 + 1)) x260000_1 x260001_1 x260002_1) else (none))) else (some (false, false, 0, 5))) = some (r1, r2, r3, r4) := H
            have A53 := Aside0.mk A530
            clear A530
            obtain ⟨ji54, hji54⟩ : ∃ j_ : Int, (mx t282 1) = j_ := ⟨_, rfl⟩
            replace H : (if t267 = true then (if (ji54) = 5 then (some (false, false, 0, 5)) else (if x6_1.length < 8796093022208 then (path_ParseParams.l0 kj48 (mx x5_1 (ji54)) (x6_1 ++ [t264]) t260 (t260.length : Int) (wrap64 (x27_1 + 1)) x260000_1 x260001_1 x260002_1) else (none))) else (some (false, false, 0, 5))) = some (r1, r2, r3, r4) := by first | (rw [hji54] at H; exact H) | (simp only [hji54] at H ⊢; exact H)
            (try rw [hji54] at A53)
            (try (have hji54l : 1 ≤ ji54 := by (rw [← hji54]; unfold mx; (repeat' split) <;> omega)))
            (try (have hji54m : 0 ≤ ji54 := by omega))
            have hji54_ : (if t282 < 1 then 1 else t282) = ji54 := hji54
            by_cases c55 : t267 = true
            ·subst c55
             replace H : (if (ji54) = 5 then (some (false, false, 0, 5)) else (if x6_1.length < 8796093022208 then (path_ParseParams.l0 kj48 (mx x5_1 (ji54)) (x6_1 ++ [t264]) t260 (t260.length : Int) (wrap64 (x27_1 + 1)) x260000_1 x260001_1 x260002_1) else (none))) = some (r1, r2, r3, r4) := by rw [if_pos rfl] at H; exact H
             by_cases c56 : (ji54) = 5
             ·rw [if_pos c56] at H
              have c56b0 : ((ji54) == 5) = true := beq_iff_eq.mpr c56
              have c56b1 : ((ji54) != 5) = false := bne_eq_false_iff_eq.mpr c56
              clear c56
              simp only [Option.some.injEq, Prod.mk.injEq] at H
              obtain ⟨rfl, rfl, rfl, rfl⟩ := H
              obtain ⟨nS_, fS_, hfS_, hfn_, hnn_, hnb_, hcS_⟩ := path_ParseParams_run.one A53.out
              go_wp2_with (first | ((with_reducible refine gate_dst (N := 66) rfl ?_); refine box_event ?hg (N := 66) ?hd (cs := #[.bool false, .bool false, .int .i64 0]) (t := 46) ?hr ?_; (case hd => rfl); (case hg => rfl); (case hr => first | (go_simp; done) | (go_simp; rfl)); intro gb278 hg w57 hbox hb; replace HO_6 := Aside0.mk (Kd.R_below (kr HO_6.out) hb); replace HO_25 := Aside0.mk (Kd.R_below (kr HO_25.out) hb); have BK278 := Aside0.mk (hbox); have GW278 := Aside0.mk (gz hg : w.heap.size ≤ gb278); have GE278 := Aside0.mk (gz hg : w.heap.size ≤ gb278); replace HB := Aside0.mk (below_step bl hb); have NB258_278 := Aside0.mk (nl hg BK258.out : gb258 ≠ gb278); have NB278_258 := Aside0.mk (ng hg BK258.out : gb278 ≠ gb258); replace BK258 := Aside0.mk (kb BK258.out hb); have NB259_278 := Aside0.mk (nl hg BK259.out : gb259 ≠ gb278); have NB278_259 := Aside0.mk (ng hg BK259.out : gb278 ≠ gb259); replace BK259 := Aside0.mk (kb BK259.out hb); clear hb hbox hg; have hnb58 := NB278_258.out; have hnc58 := NB258_278.out; have hnb59 := NB278_259.out; have hnc59 := NB259_278.out; have hcz60_0 := cz BK278.out 0 (.bool false); have hcz60_1 := cz BK278.out 1 (.bool false); have hcz60_2 := cz BK278.out 2 (.int .i64 0); have hfz60_0 := blk_frozen BK278.out 0; have hfz60_1 := blk_frozen BK278.out 1; have hfz60_2 := blk_frozen BK278.out 2) | ((with_reducible refine gate_callv (c := .tmp 65) rfl ?_); refine goesV_ (some 68) rfl rfl (c := .tmp 65) (by first | exact hfS_ | rfl) hfn_ hnn_ hnb_ #[.pointer (some ⟨gb278, 0, none⟩), .string t265] rfl ml ?_; (refine (hcS_ gb278 _ (bk BK278.out)).mono ?_); rintro e w_ ⟨rfl, w61, hb, rfl⟩; refine ⟨_, rfl, ?_⟩; replace HO_6 := Aside0.mk (Kd.R_below (kr HO_6.out) hb); replace HO_25 := Aside0.mk (Kd.R_below (kr HO_25.out) hb); replace BK258 := Aside0.mk (kb BK258.out hb); replace BK259 := Aside0.mk (kb BK259.out hb); replace BK278 := Aside0.mk (kb BK278.out hb); replace HB := Aside0.mk (below_step bl hb); (try clear hb); (try clear hb2); (try clear hk); (try clear hi); have hcz62_0 := cz BK278.out 0 (.bool false); have hcz62_1 := cz BK278.out 1 (.bool false); have hcz62_2 := cz BK278.out 2 (.int .i64 0); have hfz62_0 := blk_frozen BK278.out 0; have hfz62_1 := blk_frozen BK278.out 1; have hfz62_2 := blk_frozen BK278.out 2; have hnb63 := NB258_259.out; have hnc63 := NB259_258.out; have hcz64_0 := cz BK258.out 0 (.bool x259000_1); have hcz64_1 := cz BK258.out 1 (.bool x259001_1); have hcz64_2 := cz BK258.out 2 (.int .i64 x259002_1); have hfz64_0 := blk_frozen BK258.out 0; have hfz64_1 := blk_frozen BK258.out 1; have hfz64_2 := blk_frozen BK258.out 2))
              refine bodyPost_ret (results_ct rfl _ _ gb258 46 #[.bool false, .bool false, .int .i64 0] (0, 0) _ rfl (by (with_reducible repeat (first | refine blk_drewN ?_ _ | refine blk_drew ?_ | refine blk_alloc ?_ _)); refine blk_put (cs := #[.bool false, .bool false, .int .i64 x259002_1]) ?_ 2 _ rfl; (with_reducible repeat (first | refine blk_drewN ?_ _ | refine blk_drew ?_ | refine blk_alloc ?_ _)); refine blk_put (cs := #[.bool false, .bool x259001_1, .int .i64 x259002_1]) ?_ 1 _ rfl; (with_reducible repeat (first | refine blk_drewN ?_ _ | refine blk_drew ?_ | refine blk_alloc ?_ _)); refine blk_put (cs := #[.bool x259000_1, .bool x259001_1, .int .i64 x259002_1]) ?_ 0 _ rfl; (with_reducible repeat (first | refine blk_drewN ?_ _ | refine blk_drew ?_ | refine blk_alloc ?_ _)); refine blk_far ?_ NB258_278.out _; (with_reducible repeat (first | refine blk_drewN ?_ _ | refine blk_drew ?_ | refine blk_alloc ?_ _)); refine blk_far ?_ NB258_278.out _; (with_reducible repeat (first | refine blk_drewN ?_ _ | refine blk_drew ?_ | refine blk_alloc ?_ _)); refine blk_far ?_ NB258_278.out _; (with_reducible repeat (first | refine blk_drewN ?_ _ | refine blk_drew ?_ | refine blk_alloc ?_ _)); exact BK258.out) Tryz.underlying46 rfl kf) rfl ?_
              exact ⟨by first | rfl | (simp [bneNil]; done) | (simp [errW_none, errW_some] <;> rfl) | (simp only [← hji54]; first | rfl | (simp [errW_none, errW_some] <;> rfl)) | (simp [*, errW_none, errW_some] <;> rfl), bl⟩
             ·rw [if_neg c56] at H
              have c56b0 : ((ji54) == 5) = false := beq_eq_false_iff_ne.mpr c56
              have c56b1 : ((ji54) != 5) = true := bne_iff_ne.mpr c56
              obtain ⟨ji65, hji65⟩ : ∃ j_ : Int, (mx x5_1 (ji54)) = j_ := ⟨_, rfl⟩
              replace H : (if x6_1.length < 8796093022208 then (path_ParseParams.l0 kj48 ji65 (x6_1 ++ [t264]) t260 (t260.length : Int) (wrap64 (x27_1 + 1)) x260000_1 x260001_1 x260002_1) else (none)) = some (r1, r2, r3, r4) := by first | (rw [hji65] at H; exact H) | (simp only [hji65] at H ⊢; exact H)
              (try rw [hji65] at A53)
              have hji65_ : (if x5_1 < (ji54) then (ji54) else x5_1) = ji65 := hji65
              by_cases c66 : x6_1.length < 8796093022208
              rotate_left
              ·rw [if_neg c66] at H
               exact ab H
              rw [if_pos c66] at H
              have LMc66 := Aside0.mk c66
              clear c66
              obtain ⟨y283, hy283⟩ : ∃ y_ : List ByteArray, y_ = (x6_1 ++ [t264]) := ⟨_, rfl⟩
              replace H : (path_ParseParams.l0 kj48 ji65 y283 t260 (t260.length : Int) (wrap64 (x27_1 + 1)) x260000_1 x260001_1 x260002_1) = some (r1, r2, r3, r4) := by first | (rw [hy283]; with_reducible exact H) | (have H2_ := (Option.bind_some _ _).symm.trans H; rw [hy283]; with_reducible exact H2_) | (have H2_ := (Option.bind_some _ _).symm.trans H; with_reducible exact H2_) | with_reducible exact H | (rw [hy283]; exact H) | exact H
              have Ny283 := Aside0.mk hy283
              clear hy283
              have H' := Aside0.mk H
              clear H
              obtain ⟨nS_, fS_, hfS_, hfn_, hnn_, hnb_, hcS_⟩ := path_ParseParams_run.one A53.out
              go_wp2_with (first | ((with_reducible refine gate_dst (N := 66) rfl ?_); refine box_event ?hg (N := 66) ?hd (cs := #[.bool false, .bool false, .int .i64 0]) (t := 46) ?hr ?_; (case hd => rfl); (case hg => rfl); (case hr => first | (go_simp; done) | (go_simp; rfl)); intro gb278 hg w67 hbox hb; replace HO_6 := Aside0.mk (Kd.R_below (kr HO_6.out) hb); replace HO_25 := Aside0.mk (Kd.R_below (kr HO_25.out) hb); have BK278 := Aside0.mk (hbox); have GW278 := Aside0.mk (gz hg : w.heap.size ≤ gb278); have GE278 := Aside0.mk (gz hg : w.heap.size ≤ gb278); replace HB := Aside0.mk (below_step bl hb); have NB258_278 := Aside0.mk (nl hg BK258.out : gb258 ≠ gb278); have NB278_258 := Aside0.mk (ng hg BK258.out : gb278 ≠ gb258); replace BK258 := Aside0.mk (kb BK258.out hb); have NB259_278 := Aside0.mk (nl hg BK259.out : gb259 ≠ gb278); have NB278_259 := Aside0.mk (ng hg BK259.out : gb278 ≠ gb259); replace BK259 := Aside0.mk (kb BK259.out hb); clear hb hbox hg; have hnb68 := NB278_258.out; have hnc68 := NB258_278.out; have hnb69 := NB278_259.out; have hnc69 := NB259_278.out; have hcz70_0 := cz BK278.out 0 (.bool false); have hcz70_1 := cz BK278.out 1 (.bool false); have hcz70_2 := cz BK278.out 2 (.int .i64 0); have hfz70_0 := blk_frozen BK278.out 0; have hfz70_1 := blk_frozen BK278.out 1; have hfz70_2 := blk_frozen BK278.out 2) | ((with_reducible refine gate_callv (c := .tmp 65) rfl ?_); refine goesV_ (some 68) rfl rfl (c := .tmp 65) (by first | exact hfS_ | rfl) hfn_ hnn_ hnb_ #[.pointer (some ⟨gb278, 0, none⟩), .string t265] rfl ml ?_; (refine (hcS_ gb278 _ (bk BK278.out)).mono ?_); rintro e w_ ⟨rfl, w71, hb, rfl⟩; refine ⟨_, rfl, ?_⟩; replace HO_6 := Aside0.mk (Kd.R_below (kr HO_6.out) hb); replace HO_25 := Aside0.mk (Kd.R_below (kr HO_25.out) hb); replace BK258 := Aside0.mk (kb BK258.out hb); replace BK259 := Aside0.mk (kb BK259.out hb); replace BK278 := Aside0.mk (kb BK278.out hb); replace HB := Aside0.mk (below_step bl hb); (try clear hb); (try clear hb2); (try clear hk); (try clear hi); have hcz72_0 := cz BK278.out 0 (.bool false); have hcz72_1 := cz BK278.out 1 (.bool false); have hcz72_2 := cz BK278.out 2 (.int .i64 0); have hfz72_0 := blk_frozen BK278.out 0; have hfz72_1 := blk_frozen BK278.out 1; have hfz72_2 := blk_frozen BK278.out 2) | ((with_reducible refine gate_builtin (b := .append) (xs := #[.tmp 80, .tmp 82]) rfl ?_); at_builtin; refine Kd.R_append Kd.string (w0 := w) w.heap.size rfl (.tmp 80) (.tmp 82) 22 9 (.string ⟨#[]⟩) 16 rfl Tryz.underlying22 info9 rfl (by decide) (by omega) u6 x6_1 t264 [.string t264] (fun k_ => some k_ ≠ (.slice (some ad263) t260.length co16 : Value).ownBlock) (fun _ => False) rfl (by first | (go_simp; done) | (go_simp; rfl)) ?aP (fun _ hk => hk.elim) ?aF ?aO ?aB ?aS ?aL ?_; (case aP => exact rfl); (case aB => exact bl); (case aF => exact (fun k_ hk => Kd.fresh' (Kd.R_lt (by (with_reducible repeat (first | apply Kd.R_alloc | apply Kd.R_drewN | apply Kd.R_drew)); exact (Kd.R_mono (Kd.R_far (p := ⟨gb278, 2, none⟩) (Kd.R_far (p := ⟨gb278, 1, none⟩) (Kd.R_far (p := ⟨gb278, 0, none⟩) (Kd.R_types HO_25.out BK278.out (by decide)) (fun _ hk => hk.2) (.bool t279)) (fun _ hk => hk.2) (.bool t280)) (fun _ hk => hk.2) (.int .i64 t281)) (fun _ h_ => h_.1)))) k_ hk)); (case aO => exact (by (with_reducible repeat (first | apply Kd.R_alloc | apply Kd.R_drewN | apply Kd.R_drew)); exact Kd.R_mono (Kd.R_far (p := ⟨gb278, 2, none⟩) (Kd.R_far (p := ⟨gb278, 1, none⟩) (Kd.R_far (p := ⟨gb278, 0, none⟩) (Kd.R_types HO_6.out BK278.out (by decide)) (fun _ hk => hk.2) (.bool t279)) (fun _ hk => hk.2) (.bool t280)) (fun _ hk => hk.2) (.int .i64 t281)) (fun _ hk => hk.1))); (case aS => exact (below_size bl)); (case aL => have := LMc66.out; omega); intro v284 w73 ho hb hg hat; rw [← Ny283.out] at ho; replace HO_25 := Aside0.mk (Kd.R_after (ok := (fun _ => True)) (by (with_reducible repeat (first | apply Kd.R_alloc | apply Kd.R_drewN | apply Kd.R_drew)); exact Kd.R_mono (Kd.R_far (p := ⟨gb278, 2, none⟩) (Kd.R_far (p := ⟨gb278, 1, none⟩) (Kd.R_far (p := ⟨gb278, 0, none⟩) (Kd.R_types HO_25.out BK278.out (by decide)) (fun _ hk => hk.2) (.bool t279)) (fun _ hk => hk.2) (.bool t280)) (fun _ hk => hk.2) (.int .i64 t281)) (fun _ hk => ⟨trivial, hk.1⟩)) hg hat); replace BK258 := Aside0.mk (blk_grown (g := gb258) (o := .cells #[.bool x259000_1, .bool x259001_1, .int .i64 x259002_1] 46 (0, 0)) (bk BK258.out) hg (Kd.R_ne HO_6.out BK258.out (by decide))); replace BK259 := Aside0.mk (blk_grown (g := gb259) (o := .cells #[.bool x260000_1, .bool x260001_1, .int .i64 x260002_1] 46 (0, 0)) (bk BK259.out) hg (Kd.R_ne HO_6.out BK259.out (by decide))); replace BK278 := Aside0.mk (blk_grown (g := gb278) (o := .cells #[.bool t279, .bool t280, .int .i64 t281] 46 (0, 0)) (by (with_reducible repeat (first | refine blk_drewN ?_ _ | refine blk_drew ?_ | refine blk_alloc ?_ _)); refine blk_put (cs := #[.bool t279, .bool t280, .int .i64 0]) ?_ 2 _ rfl; (with_reducible repeat (first | refine blk_drewN ?_ _ | refine blk_drew ?_ | refine blk_alloc ?_ _)); refine blk_put (cs := #[.bool t279, .bool false, .int .i64 0]) ?_ 1 _ rfl; (with_reducible repeat (first | refine blk_drewN ?_ _ | refine blk_drew ?_ | refine blk_alloc ?_ _)); refine blk_put (cs := #[.bool false, .bool false, .int .i64 0]) ?_ 0 _ rfl; (with_reducible repeat (first | refine blk_drewN ?_ _ | refine blk_drew ?_ | refine blk_alloc ?_ _)); exact BK278.out) hg (Kd.R_ne HO_6.out BK278.out (by decide))); replace HB := Aside0.mk (hb); have HO285 := Aside0.mk (ho); clear HO_6 ho hb hg hat))
              go_roundg kj48
              case measure => have := HK1.out; have := HJ21.out; have := HJ48.out; omega
              case rel => exact ⟨(ji65), (y283), (wrap64 (x27_1 + 1)), (x259000_1), (x259001_1), (x259002_1), (x260000_1), (x260001_1), (x260002_1), (by first | rfl | (simp; done) | (simp only [← hji65] <;> (first | rfl | simp)) | (simp [*]; done)), rs, H', ⟨by have := HK1.out; have := HJ21.out; have := HJ48.out; omega⟩, ⟨kr HO285.out⟩, ⟨by (with_reducible repeat (first | apply Kd.R_alloc | apply Kd.R_drewN | apply Kd.R_drew)); exact Kd.R_mono HO_25.out (fun _ hk => hk.2)⟩, ⟨bk BK258.out⟩, ⟨bk BK259.out⟩, ⟨bl⟩⟩
            ·replace c55 := Bool.eq_false_iff.mpr c55
             subst c55
             replace H : (some (false, false, 0, 5)) = some (r1, r2, r3, r4) := by rw [if_neg (show ¬ (false = true) by decide)] at H; exact H
             simp only [Option.some.injEq, Prod.mk.injEq] at H
             obtain ⟨rfl, rfl, rfl, rfl⟩ := H
             obtain ⟨nS_, fS_, hfS_, hfn_, hnn_, hnb_, hcS_⟩ := path_ParseParams_run.one A53.out
             go_wp2_with (first | ((with_reducible refine gate_dst (N := 66) rfl ?_); refine box_event ?hg (N := 66) ?hd (cs := #[.bool false, .bool false, .int .i64 0]) (t := 46) ?hr ?_; (case hd => rfl); (case hg => rfl); (case hr => first | (go_simp; done) | (go_simp; rfl)); intro gb278 hg w74 hbox hb; replace HO_6 := Aside0.mk (Kd.R_below (kr HO_6.out) hb); replace HO_25 := Aside0.mk (Kd.R_below (kr HO_25.out) hb); have BK278 := Aside0.mk (hbox); have GW278 := Aside0.mk (gz hg : w.heap.size ≤ gb278); have GE278 := Aside0.mk (gz hg : w.heap.size ≤ gb278); replace HB := Aside0.mk (below_step bl hb); have NB258_278 := Aside0.mk (nl hg BK258.out : gb258 ≠ gb278); have NB278_258 := Aside0.mk (ng hg BK258.out : gb278 ≠ gb258); replace BK258 := Aside0.mk (kb BK258.out hb); have NB259_278 := Aside0.mk (nl hg BK259.out : gb259 ≠ gb278); have NB278_259 := Aside0.mk (ng hg BK259.out : gb278 ≠ gb259); replace BK259 := Aside0.mk (kb BK259.out hb); clear hb hbox hg; have hnb75 := NB278_258.out; have hnc75 := NB258_278.out; have hnb76 := NB278_259.out; have hnc76 := NB259_278.out; have hcz77_0 := cz BK278.out 0 (.bool false); have hcz77_1 := cz BK278.out 1 (.bool false); have hcz77_2 := cz BK278.out 2 (.int .i64 0); have hfz77_0 := blk_frozen BK278.out 0; have hfz77_1 := blk_frozen BK278.out 1; have hfz77_2 := blk_frozen BK278.out 2) | ((with_reducible refine gate_callv (c := .tmp 65) rfl ?_); refine goesV_ (some 68) rfl rfl (c := .tmp 65) (by first | exact hfS_ | rfl) hfn_ hnn_ hnb_ #[.pointer (some ⟨gb278, 0, none⟩), .string t265] rfl ml ?_; (refine (hcS_ gb278 _ (bk BK278.out)).mono ?_); rintro e w_ ⟨rfl, w78, hb, rfl⟩; refine ⟨_, rfl, ?_⟩; replace HO_6 := Aside0.mk (Kd.R_below (kr HO_6.out) hb); replace HO_25 := Aside0.mk (Kd.R_below (kr HO_25.out) hb); replace BK258 := Aside0.mk (kb BK258.out hb); replace BK259 := Aside0.mk (kb BK259.out hb); replace BK278 := Aside0.mk (kb BK278.out hb); replace HB := Aside0.mk (below_step bl hb); (try clear hb); (try clear hb2); (try clear hk); (try clear hi); have hcz79_0 := cz BK278.out 0 (.bool false); have hcz79_1 := cz BK278.out 1 (.bool false); have hcz79_2 := cz BK278.out 2 (.int .i64 0); have hfz79_0 := blk_frozen BK278.out 0; have hfz79_1 := blk_frozen BK278.out 1; have hfz79_2 := blk_frozen BK278.out 2; have hnb80 := NB258_259.out; have hnc80 := NB259_258.out; have hcz81_0 := cz BK258.out 0 (.bool x259000_1); have hcz81_1 := cz BK258.out 1 (.bool x259001_1); have hcz81_2 := cz BK258.out 2 (.int .i64 x259002_1); have hfz81_0 := blk_frozen BK258.out 0; have hfz81_1 := blk_frozen BK258.out 1; have hfz81_2 := blk_frozen BK258.out 2))
             refine bodyPost_ret (results_ct rfl _ _ gb258 46 #[.bool false, .bool false, .int .i64 0] (0, 0) _ rfl (by (with_reducible repeat (first | refine blk_drewN ?_ _ | refine blk_drew ?_ | refine blk_alloc ?_ _)); refine blk_put (cs := #[.bool false, .bool false, .int .i64 x259002_1]) ?_ 2 _ rfl; (with_reducible repeat (first | refine blk_drewN ?_ _ | refine blk_drew ?_ | refine blk_alloc ?_ _)); refine blk_put (cs := #[.bool false, .bool x259001_1, .int .i64 x259002_1]) ?_ 1 _ rfl; (with_reducible repeat (first | refine blk_drewN ?_ _ | refine blk_drew ?_ | refine blk_alloc ?_ _)); refine blk_put (cs := #[.bool x259000_1, .bool x259001_1, .int .i64 x259002_1]) ?_ 0 _ rfl; (with_reducible repeat (first | refine blk_drewN ?_ _ | refine blk_drew ?_ | refine blk_alloc ?_ _)); refine blk_far ?_ NB258_278.out _; (with_reducible repeat (first | refine blk_drewN ?_ _ | refine blk_drew ?_ | refine blk_alloc ?_ _)); refine blk_far ?_ NB258_278.out _; (with_reducible repeat (first | refine blk_drewN ?_ _ | refine blk_drew ?_ | refine blk_alloc ?_ _)); refine blk_far ?_ NB258_278.out _; (with_reducible repeat (first | refine blk_drewN ?_ _ | refine blk_drew ?_ | refine blk_alloc ?_ _)); exact BK258.out) Tryz.underlying46 rfl kf) rfl ?_
             exact ⟨by first | rfl | (simp [bneNil]; done) | (simp [errW_none, errW_some] <;> rfl) | (simp only [← hji54]; first | rfl | (simp [errW_none, errW_some] <;> rfl)) | (simp [*, errW_none, errW_some] <;> rfl), bl⟩
           ·replace c52 := Bool.eq_false_iff.mpr c52
            subst c52
            replace H : (if t267 = true then (if 1 = 5 then (some (false, false, 0, 5)) else (if x6_1.length < 8796093022208 then (path_ParseParams.l0 kj48 (mx x5_1 1) (x6_1 ++ [t264]) t260 (t260.length : Int) (wrap64 (x27_1 + 1)) x260000_1 x260001_1 x260002_1) else (none))) else (some (false, false, 0, 5))) = some (r1, r2, r3, r4) := by rw [if_neg (show ¬ (false = true) by decide)] at H; exact H
            by_cases c82 : t267 = true
            ·subst c82
             replace H : (if 1 = 5 then (some (false, false, 0, 5)) else (if x6_1.length < 8796093022208 then (path_ParseParams.l0 kj48 (mx x5_1 1) (x6_1 ++ [t264]) t260 (t260.length : Int) (wrap64 (x27_1 + 1)) x260000_1 x260001_1 x260002_1) else (none))) = some (r1, r2, r3, r4) := by rw [if_pos rfl] at H; exact H
             by_cases c83 : 1 = 5
             ·exact absurd c83 (by decide)
             ·rw [if_neg c83] at H
              have c83b0 : (1 == 5) = false := beq_eq_false_iff_ne.mpr c83
              have c83b1 : (1 != 5) = true := bne_iff_ne.mpr c83
              obtain ⟨ji86, hji86⟩ : ∃ j_ : Int, (mx x5_1 1) = j_ := ⟨_, rfl⟩
              replace H : (if x6_1.length < 8796093022208 then (path_ParseParams.l0 kj48 ji86 (x6_1 ++ [t264]) t260 (t260.length : Int) (wrap64 (x27_1 + 1)) x260000_1 x260001_1 x260002_1) else (none)) = some (r1, r2, r3, r4) := by first | (rw [hji86] at H; exact H) | (simp only [hji86] at H ⊢; exact H)
              have hji86_ : (if x5_1 < 1 then 1 else x5_1) = ji86 := hji86
              by_cases c87 : x6_1.length < 8796093022208
              rotate_left
              ·rw [if_neg c87] at H
               exact ab H
              rw [if_pos c87] at H
              have LMc87 := Aside0.mk c87
              clear c87
              obtain ⟨y286, hy286⟩ : ∃ y_ : List ByteArray, y_ = (x6_1 ++ [t264]) := ⟨_, rfl⟩
              replace H : (path_ParseParams.l0 kj48 ji86 y286 t260 (t260.length : Int) (wrap64 (x27_1 + 1)) x260000_1 x260001_1 x260002_1) = some (r1, r2, r3, r4) := by first | (rw [hy286]; with_reducible exact H) | (have H2_ := (Option.bind_some _ _).symm.trans H; rw [hy286]; with_reducible exact H2_) | (have H2_ := (Option.bind_some _ _).symm.trans H; with_reducible exact H2_) | with_reducible exact H | (rw [hy286]; exact H) | exact H
              have Ny286 := Aside0.mk hy286
              clear hy286
              have H' := Aside0.mk H
              clear H
              go_wp2_with (first | ((with_reducible refine gate_builtin (b := .append) (xs := #[.tmp 80, .tmp 82]) rfl ?_); at_builtin; refine Kd.R_append Kd.string (w0 := w) w.heap.size rfl (.tmp 80) (.tmp 82) 22 9 (.string ⟨#[]⟩) 16 rfl Tryz.underlying22 info9 rfl (by decide) (by omega) u6 x6_1 t264 [.string t264] (fun k_ => some k_ ≠ (.slice (some ad263) t260.length co16 : Value).ownBlock) (fun _ => False) rfl rfl ?aP (fun _ hk => hk.elim) ?aF ?aO ?aB ?aS ?aL ?_; (case aP => exact rfl); (case aB => exact bl); (case aF => exact (fun k_ hk => Kd.fresh' (Kd.R_lt (kr HO_25.out)) k_ hk)); (case aO => exact (kr HO_6.out)); (case aS => exact (below_size bl)); (case aL => have := LMc87.out; omega); intro v287 w88 ho hb hg hat; rw [← Ny286.out] at ho; replace HO_25 := Aside0.mk (Kd.R_after (ok := (fun _ => True)) (by (with_reducible repeat (first | apply Kd.R_alloc | apply Kd.R_drewN | apply Kd.R_drew)); exact Kd.R_mono HO_25.out (fun _ hk => ⟨trivial, hk⟩)) hg hat); replace BK258 := Aside0.mk (blk_grown (g := gb258) (o := .cells #[.bool x259000_1, .bool x259001_1, .int .i64 x259002_1] 46 (0, 0)) (bk BK258.out) hg (Kd.R_ne HO_6.out BK258.out (by decide))); replace BK259 := Aside0.mk (blk_grown (g := gb259) (o := .cells #[.bool x260000_1, .bool x260001_1, .int .i64 x260002_1] 46 (0, 0)) (bk BK259.out) hg (Kd.R_ne HO_6.out BK259.out (by decide))); replace HB := Aside0.mk (hb); have HO288 := Aside0.mk (ho); clear HO_6 ho hb hg hat))
              go_roundg kj48
              case measure => have := HK1.out; have := HJ21.out; have := HJ48.out; omega
              case rel => exact ⟨(ji86), (y286), (wrap64 (x27_1 + 1)), (x259000_1), (x259001_1), (x259002_1), (x260000_1), (x260001_1), (x260002_1), (by first | rfl | (simp; done) | (simp only [← hji86] <;> (first | rfl | simp)) | (simp [*]; done)), rs, H', ⟨by have := HK1.out; have := HJ21.out; have := HJ48.out; omega⟩, ⟨kr HO288.out⟩, ⟨by (with_reducible repeat (first | apply Kd.R_alloc | apply Kd.R_drewN | apply Kd.R_drew)); exact Kd.R_mono HO_25.out (fun _ hk => hk.2)⟩, ⟨bk BK258.out⟩, ⟨bk BK259.out⟩, ⟨bl⟩⟩
            ·replace c82 := Bool.eq_false_iff.mpr c82
             subst c82
             replace H : (some (false, false, 0, 5)) = some (r1, r2, r3, r4) := by rw [if_neg (show ¬ (false = true) by decide)] at H; exact H
             simp only [Option.some.injEq, Prod.mk.injEq] at H
             obtain ⟨rfl, rfl, rfl, rfl⟩ := H
             have hnb89 := NB258_259.out
             have hnc89 := NB259_258.out
             have hcz90_0 := cz BK258.out 0 (.bool x259000_1)
             have hcz90_1 := cz BK258.out 1 (.bool x259001_1)
             have hcz90_2 := cz BK258.out 2 (.int .i64 x259002_1)
             have hfz90_0 := blk_frozen BK258.out 0
             have hfz90_1 := blk_frozen BK258.out 1
             have hfz90_2 := blk_frozen BK258.out 2
             go_wp2
             refine bodyPost_ret (results_ct rfl _ _ gb258 46 #[.bool false, .bool false, .int .i64 0] (0, 0) _ rfl (by (with_reducible repeat (first | refine blk_drewN ?_ _ | refine blk_drew ?_ | refine blk_alloc ?_ _)); refine blk_put (cs := #[.bool false, .bool false, .int .i64 x259002_1]) ?_ 2 _ rfl; (with_reducible repeat (first | refine blk_drewN ?_ _ | refine blk_drew ?_ | refine blk_alloc ?_ _)); refine blk_put (cs := #[.bool false, .bool x259001_1, .int .i64 x259002_1]) ?_ 1 _ rfl; (with_reducible repeat (first | refine blk_drewN ?_ _ | refine blk_drew ?_ | refine blk_alloc ?_ _)); refine blk_put (cs := #[.bool x259000_1, .bool x259001_1, .int .i64 x259002_1]) ?_ 0 _ rfl; (with_reducible repeat (first | refine blk_drewN ?_ _ | refine blk_drew ?_ | refine blk_alloc ?_ _)); exact BK258.out) Tryz.underlying46 rfl kf) rfl ?_
             exact ⟨rf, bl⟩
     ·rw [if_neg c17] at H
      have c17b0 : decide (x27_1 < (t260.length : Int)) = false := decide_eq_false c17
      clear c17
      by_cases c91 : x5_1 = 0
      ·rw [if_pos c91] at H
       have c91b0 : (x5_1 == 0) = true := beq_iff_eq.mpr c91
       have c91b1 : (x5_1 != 0) = false := bne_eq_false_iff_eq.mpr c91
       clear c91
       simp only [Option.some.injEq, Prod.mk.injEq] at H
       obtain ⟨rfl, rfl, rfl, rfl⟩ := H
       have hnb92 := NB259_258.out
       have hnc92 := NB258_259.out
       have hcz93_0 := cz BK259.out 0 (.bool x260000_1)
       have hcz93_1 := cz BK259.out 1 (.bool x260001_1)
       have hcz93_2 := cz BK259.out 2 (.int .i64 x260002_1)
       have hfz93_0 := blk_frozen BK259.out 0
       have hfz93_1 := blk_frozen BK259.out 1
       have hfz93_2 := blk_frozen BK259.out 2
       have hcz94_0 := cz BK258.out 0 (.bool x259000_1)
       have hcz94_1 := cz BK258.out 1 (.bool x259001_1)
       have hcz94_2 := cz BK258.out 2 (.int .i64 x259002_1)
       have hfz94_0 := blk_frozen BK258.out 0
       have hfz94_1 := blk_frozen BK258.out 1
       have hfz94_2 := blk_frozen BK258.out 2
       go_wp2
       refine bodyPost_ret (results_ct rfl _ _ gb258 46 #[.bool x260000_1, .bool x260001_1, .int .i64 x260002_1] (0, 0) _ rfl (by (with_reducible repeat (first | refine blk_drewN ?_ _ | refine blk_drew ?_ | refine blk_alloc ?_ _)); refine blk_put (cs := #[.bool x260000_1, .bool x260001_1, .int .i64 x259002_1]) ?_ 2 _ rfl; (with_reducible repeat (first | refine blk_drewN ?_ _ | refine blk_drew ?_ | refine blk_alloc ?_ _)); refine blk_put (cs := #[.bool x260000_1, .bool x259001_1, .int .i64 x259002_1]) ?_ 1 _ rfl; (with_reducible repeat (first | refine blk_drewN ?_ _ | refine blk_drew ?_ | refine blk_alloc ?_ _)); refine blk_put (cs := #[.bool x259000_1, .bool x259001_1, .int .i64 x259002_1]) ?_ 0 _ rfl; (with_reducible repeat (first | refine blk_drewN ?_ _ | refine blk_drew ?_ | refine blk_alloc ?_ _)); exact BK258.out) Tryz.underlying46 rfl kf) rfl ?_
       exact ⟨rf, bl⟩
      ·rw [if_neg c91] at H
       have c91b0 : (x5_1 == 0) = false := beq_eq_false_iff_ne.mpr c91
       have c91b1 : (x5_1 != 0) = true := bne_iff_ne.mpr c91
       simp only [Option.some.injEq, Prod.mk.injEq] at H
       obtain ⟨rfl, rfl, rfl, rfl⟩ := H
       have hnb95 := NB258_259.out
       have hnc95 := NB259_258.out
       have hcz96_0 := cz BK258.out 0 (.bool x259000_1)
       have hcz96_1 := cz BK258.out 1 (.bool x259001_1)
       have hcz96_2 := cz BK258.out 2 (.int .i64 x259002_1)
       have hfz96_0 := blk_frozen BK258.out 0
       have hfz96_1 := blk_frozen BK258.out 1
       have hfz96_2 := blk_frozen BK258.out 2
       go_wp2
       refine bodyPost_ret (results_ct rfl _ _ gb258 46 #[.bool false, .bool false, .int .i64 0] (0, 0) _ rfl (by (with_reducible repeat (first | refine blk_drewN ?_ _ | refine blk_drew ?_ | refine blk_alloc ?_ _)); refine blk_put (cs := #[.bool false, .bool false, .int .i64 x259002_1]) ?_ 2 _ rfl; (with_reducible repeat (first | refine blk_drewN ?_ _ | refine blk_drew ?_ | refine blk_alloc ?_ _)); refine blk_put (cs := #[.bool false, .bool x259001_1, .int .i64 x259002_1]) ?_ 1 _ rfl; (with_reducible repeat (first | refine blk_drewN ?_ _ | refine blk_drew ?_ | refine blk_alloc ?_ _)); refine blk_put (cs := #[.bool x259000_1, .bool x259001_1, .int .i64 x259002_1]) ?_ 0 _ rfl; (with_reducible repeat (first | refine blk_drewN ?_ _ | refine blk_drew ?_ | refine blk_alloc ?_ _)); exact BK258.out) Tryz.underlying46 rfl kf) rfl ?_
       exact ⟨rf, bl⟩
  ·rw [if_neg c10] at H
   have c10b0 : ((bt a0 0) == 32) = false := beq_eq_false_iff_ne.mpr c10
   have c10b1 : ((bt a0 0) != 32) = true := bne_iff_ne.mpr c10
   simp only [Option.some.injEq, Prod.mk.injEq] at H
   obtain ⟨rfl, rfl, rfl, rfl⟩ := H
   go_enter Tryz.func17, Tryz.ntmps17
   go_wp2_with (first | ((with_reducible refine gate_dst (N := 2) rfl ?_); refine box_event ?hg (N := 2) ?hd (cs := #[.bool false, .bool false, .int .i64 0]) (t := 46) ?hr ?_; (case hd => rfl); (case hg => rfl); (case hr => first | (go_simp; done) | (go_simp; rfl)); intro gb258 hg w97 hbox hb; have BK258 := Aside0.mk (hbox); have GW258 := Aside0.mk (gz hg : w.heap.size ≤ gb258); have GE258 := Aside0.mk (gz hg : w.heap.size ≤ gb258); replace HB := Aside0.mk (below_step bl hb); clear hb hbox hg) | ((with_reducible refine gate_dst (N := 4) rfl ?_); refine box_event ?hg (N := 4) ?hd (cs := #[.bool false, .bool false, .int .i64 0]) (t := 46) ?hr ?_; (case hd => rfl); (case hg => rfl); (case hr => first | (go_simp; done) | (go_simp; rfl)); intro gb259 hg w98 hbox hb; have BK259 := Aside0.mk (hbox); have GW259 := Aside0.mk (gz hg : w.heap.size ≤ gb259); have GE259 := Aside0.mk (gz hg : w.heap.size ≤ gb259); replace HB := Aside0.mk (below_step bl hb); have NB258_259 := Aside0.mk (nl hg BK258.out : gb258 ≠ gb259); have NB259_258 := Aside0.mk (ng hg BK258.out : gb259 ≠ gb258); replace BK258 := Aside0.mk (kb BK258.out hb); clear hb hbox hg; have p9 : 0 ≤ (0 : Int) := (by omega); have q9 : 0 < a0.size := (by have : (0 : Int) < (a0.size : Int) := od; omega); have hx9 : ∀ h : 0 < a0.size, ((a0[0]'h).toNat : Int) = bt a0 0 := bt_at a0 0; clear p9; have qi9 : (0 < (a0.size : Int)) = True := eq_true (od); replace q9 := eq_true q9; have hnb99 := NB259_258.out; have hnc99 := NB258_259.out; have hcz100_0 := cz BK259.out 0 (.bool false); have hcz100_1 := cz BK259.out 1 (.bool false); have hcz100_2 := cz BK259.out 2 (.int .i64 0); have hfz100_0 := blk_frozen BK259.out 0; have hfz100_1 := blk_frozen BK259.out 1; have hfz100_2 := blk_frozen BK259.out 2; have hcz101_0 := cz BK258.out 0 (.bool false); have hcz101_1 := cz BK258.out 1 (.bool false); have hcz101_2 := cz BK258.out 2 (.int .i64 0); have hfz101_0 := blk_frozen BK258.out 0; have hfz101_1 := blk_frozen BK258.out 1; have hfz101_2 := blk_frozen BK258.out 2))
   refine bodyPost_ret (results_ct rfl _ _ gb258 46 #[.bool false, .bool false, .int .i64 0] (0, 0) _ rfl (by (with_reducible repeat (first | refine blk_drewN ?_ _ | refine blk_drew ?_ | refine blk_alloc ?_ _)); refine blk_put (cs := #[.bool false, .bool false, .int .i64 0]) ?_ 2 _ rfl; (with_reducible repeat (first | refine blk_drewN ?_ _ | refine blk_drew ?_ | refine blk_alloc ?_ _)); refine blk_put (cs := #[.bool false, .bool false, .int .i64 0]) ?_ 1 _ rfl; (with_reducible repeat (first | refine blk_drewN ?_ _ | refine blk_drew ?_ | refine blk_alloc ?_ _)); refine blk_put (cs := #[.bool false, .bool false, .int .i64 0]) ?_ 0 _ rfl; (with_reducible repeat (first | refine blk_drewN ?_ _ | refine blk_drew ?_ | refine blk_alloc ?_ _)); exact BK258.out) Tryz.underlying46 rfl kf) rfl ?_
   exact ⟨rf, bl⟩

end Go.Proofs.YtgelfnjicglmbaaGreatDoor.Q
end
