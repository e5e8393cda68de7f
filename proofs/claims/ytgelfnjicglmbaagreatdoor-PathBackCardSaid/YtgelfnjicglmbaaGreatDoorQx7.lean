/- Walks of functions. -/
import Derived.Test.YtgelfnjicglmbaaGreatDoorQx0
set_option linter.unusedSimpArgs false
set_option linter.unusedVariables false
open Go.RowKit Go.Proofs.YtgelfnjicglmbaaGreatDoorW.PrintWords Go.Proofs.YtgelfnjicglmbaaGreatDoorW.PrintLast Go.Proofs.YtgelfnjicglmbaaGreatDoorW.PrintMore
set_option maxHeartbeats 8000000
set_option maxRecDepth 100000
attribute [local go_sem] max2_int min2_int max_two min_two max_three min_three max_four min_four
section
namespace Go.Proofs.YtgelfnjicglmbaaGreatDoor.Q

/-! ### addr_Parse: function 35 -/
def addr_Parse.j0 : Nat → ByteArray → ByteArray → Int → Bool → Option (ByteArray × ByteArray × Int)
 | 0, _, _, _, _ => none
 | k + 1, x4, x7, x9, x23 => if x23 = true then (some ((⟨#[]⟩ : ByteArray), (⟨#[]⟩ : ByteArray), 5)) else (if x9 = 0 then (if (x4.size : Int) > 64 then (some ((⟨#[]⟩ : ByteArray), (⟨#[]⟩ : ByteArray), 3)) else (some (x4, x7, 0))) else (some ((⟨#[]⟩ : ByteArray), (⟨#[]⟩ : ByteArray), 3)))
def addr_Parse.f (k : Nat) (a0 : ByteArray) : Option (ByteArray × ByteArray × Int) := (addr_local.f k a0).bind fun bt178 => ((strings_CutPrefix.f bt178.2.1 (⟨#[64]⟩ : ByteArray)).bind fun bt181 => ((addr_domain.f bt181.1).bind fun t183 => (if bt178.2.2 = true then (if bt181.2 = true then (addr_Parse.j0 k bt178.1 bt181.1 t183 (t183 == 5)) else (addr_Parse.j0 k bt178.1 bt181.1 t183 true)) else (addr_Parse.j0 k bt178.1 bt181.1 t183 true))))
theorem addr_Parse.mono_l : ∀ k, (∀ y0 y1 y2 y3, LeO (addr_Parse.j0 k y0 y1 y2 y3) (addr_Parse.j0 (k + 1) y0 y1 y2 y3))
 | 0 => fun _ _ _ _ r h => by simp [addr_Parse.j0] at h
 | k + 1 => by
  have ih0 := addr_Parse.mono_l k
  ·intro y0 y1 y2 y3
   unfold addr_Parse.j0
   repeat' first
   | (with_reducible first | exact ih0 _ _ _ _ | exact addr_local.mono _ _ | exact LeO.refl _ | exact LeO.none _ | refine LeO.ite ?_ ?_ | refine LeO.bind ?_ (fun _ => ?_))
theorem addr_Parse.mono : ∀ a0 k, LeO (addr_Parse.f k a0) (addr_Parse.f (k + 1) a0) := by
 intro a0 k
 have ih0 := addr_Parse.mono_l k
 unfold addr_Parse.f
 repeat' first
   | (with_reducible first | exact ih0 _ _ _ _ | exact addr_local.mono _ _ | exact LeO.refl _ | exact LeO.none _ | refine LeO.ite ?_ ?_ | refine LeO.bind ?_ (fun _ => ?_))
theorem addr_Parse.calls (k : Nat) (a0 : ByteArray) (r1 : ByteArray) (r2 : ByteArray) (r3 : Int) (w : World) (hG : Glob w) (h : addr_Parse.f k a0 = some (r1, r2, r3)) :
  Calls Tryz.prog 35 #[.string a0] w fun e w' => e = .returned (.tuple #[.agg #[.string r1, .string r2], .int .i64 r3]) ∧ Below w.heap.size w w' := by
 have hu24 := Tryz.underlying24
 have HB := Aside0.mk (Below.refl w.heap.size w)
 have HG := Aside0.mk hG
 clear hG
 have H : ((addr_local.f k a0).bind fun bt178 => ((strings_CutPrefix.f bt178.2.1 (⟨#[64]⟩ : ByteArray)).bind fun bt181 => ((addr_domain.f bt181.1).bind fun t183 => (if bt178.2.2 = true then (if bt181.2 = true then (addr_Parse.j0 k bt178.1 bt181.1 t183 (t183 == 5)) else (addr_Parse.j0 k bt178.1 bt181.1 t183 true)) else (addr_Parse.j0 k bt178.1 bt181.1 t183 true))))) = some (r1, r2, r3) := h
 clear h
 obtain ⟨⟨t178, t179, t180⟩, A20, H⟩ := Option.bind_eq_some_iff.mp H
 replace H : ((strings_CutPrefix.f t179 (⟨#[64]⟩ : ByteArray)).bind fun bt181 => ((addr_domain.f bt181.1).bind fun t183 => (if t180 = true then (if bt181.2 = true then (addr_Parse.j0 k t178 bt181.1 t183 (t183 == 5)) else (addr_Parse.j0 k t178 bt181.1 t183 true)) else (addr_Parse.j0 k t178 bt181.1 t183 true)))) = some (r1, r2, r3) := H
 have A2 := Aside0.mk A20
 clear A20
 obtain ⟨⟨t181, t182⟩, A30, H⟩ := Option.bind_eq_some_iff.mp H
 replace H : ((addr_domain.f t181).bind fun t183 => (if t180 = true then (if t182 = true then (addr_Parse.j0 k t178 t181 t183 (t183 == 5)) else (addr_Parse.j0 k t178 t181 t183 true)) else (addr_Parse.j0 k t178 t181 t183 true))) = some (r1, r2, r3) := H
 have A3 := Aside0.mk A30
 clear A30
 obtain ⟨t183, A40, H⟩ := Option.bind_eq_some_iff.mp H
 replace H : (if t180 = true then (if t182 = true then (addr_Parse.j0 k t178 t181 t183 (t183 == 5)) else (addr_Parse.j0 k t178 t181 t183 true)) else (addr_Parse.j0 k t178 t181 t183 true)) = some (r1, r2, r3) := H
 have A4 := Aside0.mk A40
 clear A40
 have HC5 := Aside0.mk H
 clear H
 go_enter Tryz.func35, Tryz.ntmps35
 go_upto_region 4 with (first | ((with_reducible refine gate_dst (N := 2) rfl ?_); (try (refine gate_guard (by rfl) ?_; dsimp only)); refine box_event ?hg (N := 2) ?hd (cs := #[.string (⟨#[]⟩ : ByteArray), .string (⟨#[]⟩ : ByteArray)]) (t := 24) ?hr ?_; (case hd => rfl); (case hg => rfl); (case hr => first | (go_simp; done) | (go_simp; rfl)); intro gb177 hg w6 hbox hb; have BK177 := Aside0.mk (hbox); have GW177 := Aside0.mk (gz hg : w.heap.size ≤ gb177); have GE177 := Aside0.mk (gz hg : w.heap.size ≤ gb177); replace HB := Aside0.mk (below_step bl hb); clear hb hbox hg) | ((with_reducible refine gate_callee (f := 65) rfl ?_); refine goesL_ (some 12) rfl rfl Tryz.func65 kf rfl #[.string a0] rfl ml ?_; (with_reducible refine (addr_local.calls k a0 t178 t179 t180 _ ?side1 A2.out).mono ?_); (case side1 => exact Glob.below HG.out bl); rintro e w7 ⟨rfl, hb⟩; refine ⟨_, rfl, ?_⟩; replace BK177 := Aside0.mk (kb BK177.out hb); replace HB := Aside0.mk (below_step bl hb); (try clear hb); (try clear hb2); (try clear hk); (try clear hi)) | ((with_reducible refine gate_callee (f := 30) rfl ?_); refine goesL_ (some 18) rfl rfl Tryz.func30 kf rfl #[.string t179, .string (⟨#[64]⟩ : ByteArray)] rfl ml ?_; (with_reducible refine (strings_CutPrefix.calls t179 (⟨#[64]⟩ : ByteArray) t181 t182 _ A3.out).mono ?_); rintro e w' ⟨rfl, ⟨nd, rfl⟩⟩; refine ⟨_, rfl, ?_⟩) | ((with_reducible refine gate_callee (f := 59) rfl ?_); refine goesL_ (some 22) rfl rfl Tryz.func59 kf rfl #[.string t181] rfl ml ?_; (with_reducible refine (addr_domain.calls t181 t183 _ ?side1 A4.out).mono ?_); (case side1 => exact Glob.below HG.out bl); rintro e w8 ⟨rfl, hb⟩; refine ⟨_, rfl, ?_⟩; replace BK177 := Aside0.mk (kb BK177.out hb); replace HB := Aside0.mk (below_step bl hb); (try clear hb); (try clear hb2); (try clear hk); (try clear hi)))
 (try simp only [Act.put, sA, sB, sC])
 go_cut [23] (fun v23 wc => ∃ (kq : Nat) (x23_4 : Bool), v23 = .bool x23_4 ∧ Aside0 (addr_Parse.j0 kq t178 t181 t183 x23_4 = some (r1, r2, r3)) ∧ Aside0 (kq ≤ k) ∧ Aside0 (wc.heap[gb177]? = some (.cells #[.string (⟨#[]⟩ : ByteArray), .string (⟨#[]⟩ : ByteArray)] 24 (0, 0))) ∧ Aside0 (Below w.heap.size w wc))
 case first =>
  have H := HC5.out
  clear HC5
  by_cases c9 : t180 = true
  ·subst c9
   replace H : (if t182 = true then (addr_Parse.j0 k t178 t181 t183 (t183 == 5)) else (addr_Parse.j0 k t178 t181 t183 true)) = some (r1, r2, r3) := by rw [if_pos rfl] at H; exact H
   by_cases c10 : t182 = true
   ·subst c10
    replace H : (addr_Parse.j0 k t178 t181 t183 (t183 == 5)) = some (r1, r2, r3) := by rw [if_pos rfl] at H; exact H
    have H' := Aside0.mk H
    clear H
    go_wp2
    go_meet
    case rel => exact ⟨_, ((t183 == 5)), rs, H', ⟨by first | omega | exact Nat.le_refl _⟩, ⟨bk BK177.out⟩, ⟨bl⟩⟩
   ·replace c10 := Bool.eq_false_iff.mpr c10
    subst c10
    replace H : (addr_Parse.j0 k t178 t181 t183 true) = some (r1, r2, r3) := by rw [if_neg (show ¬ (false = true) by decide)] at H; exact H
    have H' := Aside0.mk H
    clear H
    go_wp2
    go_meet
    case rel => exact ⟨_, (true), rs, H', ⟨by first | omega | exact Nat.le_refl _⟩, ⟨bk BK177.out⟩, ⟨bl⟩⟩
  ·replace c9 := Bool.eq_false_iff.mpr c9
   subst c9
   replace H : (addr_Parse.j0 k t178 t181 t183 true) = some (r1, r2, r3) := by rw [if_neg (show ¬ (false = true) by decide)] at H; exact H
   have H' := Aside0.mk H
   clear H
   go_wp2
   go_meet
   case rel => exact ⟨_, (true), rs, H', ⟨by first | omega | exact Nat.le_refl _⟩, ⟨bk BK177.out⟩, ⟨bl⟩⟩
 case rest =>
  clear HC5
  try clear c1
  try clear p2
  try clear c3
  try clear c5
  try clear c6
  try clear c9
  try clear c10
  obtain ⟨kq, x23_4, rfl, HA, HJ4, BK177, HB⟩ := hcut
  cases kq with
  | zero => exact absurd HA.out (by simp [addr_Parse.j0])
  | succ kj4 =>
   have H := HA.out
   clear HA
   simp only [addr_Parse.j0] at H
   by_cases c11 : x23_4 = true
   ·subst c11
    replace H : (some ((⟨#[]⟩ : ByteArray), (⟨#[]⟩ : ByteArray), 5)) = some (r1, r2, r3) := by rw [if_pos rfl] at H; exact H
    simp only [Option.some.injEq, Prod.mk.injEq] at H
    obtain ⟨rfl, rfl, rfl⟩ := H
    have hcz12_0 := cz BK177.out 0 (.string (⟨#[]⟩ : ByteArray))
    have hcz12_1 := cz BK177.out 1 (.string (⟨#[]⟩ : ByteArray))
    have hfz12_0 := blk_frozen BK177.out 0
    have hfz12_1 := blk_frozen BK177.out 1
    go_wp2
    refine bodyPost_ret (results_ct rfl _ _ gb177 24 #[.string (⟨#[]⟩ : ByteArray), .string (⟨#[]⟩ : ByteArray)] (0, 0) _ rfl (by (with_reducible repeat (first | refine blk_drewN ?_ _ | refine blk_drew ?_ | refine blk_alloc ?_ _)); refine blk_put (cs := #[.string (⟨#[]⟩ : ByteArray), .string (⟨#[]⟩ : ByteArray)]) ?_ 1 _ rfl; (with_reducible repeat (first | refine blk_drewN ?_ _ | refine blk_drew ?_ | refine blk_alloc ?_ _)); refine blk_put (cs := #[.string (⟨#[]⟩ : ByteArray), .string (⟨#[]⟩ : ByteArray)]) ?_ 0 _ rfl; (with_reducible repeat (first | refine blk_drewN ?_ _ | refine blk_drew ?_ | refine blk_alloc ?_ _)); exact BK177.out) Tryz.underlying24 rfl kf) rfl ?_
    exact ⟨rf, bl⟩
   ·replace c11 := Bool.eq_false_iff.mpr c11
    subst c11
    replace H : (if t183 = 0 then (if (t178.size : Int) > 64 then (some ((⟨#[]⟩ : ByteArray), (⟨#[]⟩ : ByteArray), 3)) else (some (t178, t181, 0))) else (some ((⟨#[]⟩ : ByteArray), (⟨#[]⟩ : ByteArray), 3))) = some (r1, r2, r3) := by rw [if_neg (show ¬ (false = true) by decide)] at H; exact H
    by_cases c13 : t183 = 0
    ·rw [if_pos c13] at H
     have c13b0 : (t183 == 0) = true := beq_iff_eq.mpr c13
     have c13b1 : (t183 != 0) = false := bne_eq_false_iff_eq.mpr c13
     clear c13
     by_cases c14 : (t178.size : Int) > 64
     ·rw [if_pos c14] at H
      have c14b0 : decide (64 < (t178.size : Int)) = true := decide_eq_true c14
      have c14b1 : decide (64 < t178.size) = true := decide_eq_true (by omega)
      clear c14
      simp only [Option.some.injEq, Prod.mk.injEq] at H
      obtain ⟨rfl, rfl, rfl⟩ := H
      have hcz15_0 := cz BK177.out 0 (.string (⟨#[]⟩ : ByteArray))
      have hcz15_1 := cz BK177.out 1 (.string (⟨#[]⟩ : ByteArray))
      have hfz15_0 := blk_frozen BK177.out 0
      have hfz15_1 := blk_frozen BK177.out 1
      go_wp2
      refine bodyPost_ret (results_ct rfl _ _ gb177 24 #[.string (⟨#[]⟩ : ByteArray), .string (⟨#[]⟩ : ByteArray)] (0, 0) _ rfl (by (with_reducible repeat (first | refine blk_drewN ?_ _ | refine blk_drew ?_ | refine blk_alloc ?_ _)); refine blk_put (cs := #[.string (⟨#[]⟩ : ByteArray), .string (⟨#[]⟩ : ByteArray)]) ?_ 1 _ rfl; (with_reducible repeat (first | refine blk_drewN ?_ _ | refine blk_drew ?_ | refine blk_alloc ?_ _)); refine blk_put (cs := #[.string (⟨#[]⟩ : ByteArray), .string (⟨#[]⟩ : ByteArray)]) ?_ 0 _ rfl; (with_reducible repeat (first | refine blk_drewN ?_ _ | refine blk_drew ?_ | refine blk_alloc ?_ _)); exact BK177.out) Tryz.underlying24 rfl kf) rfl ?_
      exact ⟨rf, bl⟩
     ·rw [if_neg c14] at H
      have c14b0 : decide (64 < (t178.size : Int)) = false := decide_eq_false c14
      have c14b1 : decide (64 < t178.size) = false := decide_eq_false (by omega)
      clear c14
      simp only [Option.some.injEq, Prod.mk.injEq] at H
      obtain ⟨rfl, rfl, rfl⟩ := H
      have hcz16_0 := cz BK177.out 0 (.string (⟨#[]⟩ : ByteArray))
      have hcz16_1 := cz BK177.out 1 (.string (⟨#[]⟩ : ByteArray))
      have hfz16_0 := blk_frozen BK177.out 0
      have hfz16_1 := blk_frozen BK177.out 1
      go_wp2
      refine bodyPost_ret (results_ct rfl _ _ gb177 24 #[.string t178, .string t181] (0, 0) _ rfl (by (with_reducible repeat (first | refine blk_drewN ?_ _ | refine blk_drew ?_ | refine blk_alloc ?_ _)); refine blk_put (cs := #[.string t178, .string (⟨#[]⟩ : ByteArray)]) ?_ 1 _ rfl; (with_reducible repeat (first | refine blk_drewN ?_ _ | refine blk_drew ?_ | refine blk_alloc ?_ _)); refine blk_put (cs := #[.string (⟨#[]⟩ : ByteArray), .string (⟨#[]⟩ : ByteArray)]) ?_ 0 _ rfl; (with_reducible repeat (first | refine blk_drewN ?_ _ | refine blk_drew ?_ | refine blk_alloc ?_ _)); exact BK177.out) Tryz.underlying24 rfl kf) rfl ?_
      exact ⟨rf, bl⟩
    ·rw [if_neg c13] at H
     have c13b0 : (t183 == 0) = false := beq_eq_false_iff_ne.mpr c13
     have c13b1 : (t183 != 0) = true := bne_iff_ne.mpr c13
     simp only [Option.some.injEq, Prod.mk.injEq] at H
     obtain ⟨rfl, rfl, rfl⟩ := H
     have hcz17_0 := cz BK177.out 0 (.string (⟨#[]⟩ : ByteArray))
     have hcz17_1 := cz BK177.out 1 (.string (⟨#[]⟩ : ByteArray))
     have hfz17_0 := blk_frozen BK177.out 0
     have hfz17_1 := blk_frozen BK177.out 1
     go_wp2
     refine bodyPost_ret (results_ct rfl _ _ gb177 24 #[.string (⟨#[]⟩ : ByteArray), .string (⟨#[]⟩ : ByteArray)] (0, 0) _ rfl (by (with_reducible repeat (first | refine blk_drewN ?_ _ | refine blk_drew ?_ | refine blk_alloc ?_ _)); refine blk_put (cs := #[.string (⟨#[]⟩ : ByteArray), .string (⟨#[]⟩ : ByteArray)]) ?_ 1 _ rfl; (with_reducible repeat (first | refine blk_drewN ?_ _ | refine blk_drew ?_ | refine blk_alloc ?_ _)); refine blk_put (cs := #[.string (⟨#[]⟩ : ByteArray), .string (⟨#[]⟩ : ByteArray)]) ?_ 0 _ rfl; (with_reducible repeat (first | refine blk_drewN ?_ _ | refine blk_drew ?_ | refine blk_alloc ?_ _)); exact BK177.out) Tryz.underlying24 rfl kf) rfl ?_
     exact ⟨rf, bl⟩

/-! ### path_domains: function 33 -/
def path_domains.l0 : Nat → List ByteArray → Int → List ByteArray → Int → Int → Option (Int)
 | 0, _, _, _, _, _ => none
 | k + 1, x0, x3, x8, x9, x10 => if x10 < x9 then (if 0 ≤ x10 then (if x10 < (x8.length : Int) then (if 2 + (rdOf ByteArray.empty x8 x10).size ≤ 9223372036854775807 then ((addr_Parse.f k ((⟨#[120, 64]⟩ : ByteArray) ++ (rdOf ByteArray.empty x8 x10))).bind fun bt185 => (if bt185.2.2 = 5 then (some bt185.2.2) else (path_domains.l0 k x0 (mx x3 bt185.2.2) x8 x9 (wrap64 (x10 + 1))))) else (none)) else (none)) else (none)) else (if (x0.length : Int) > 8 then (some 3) else (some x3))
def path_domains.f (k : Nat) (l0 : List ByteArray) : Option (Int) := path_domains.l0 k l0 0 l0 (l0.length : Int) 0
theorem path_domains.mono_l : ∀ k, (∀ y0 y1 y2 y3 y4, LeO (path_domains.l0 k y0 y1 y2 y3 y4) (path_domains.l0 (k + 1) y0 y1 y2 y3 y4))
 | 0 => fun _ _ _ _ _ r h => by simp [path_domains.l0] at h
 | k + 1 => by
  have ih0 := path_domains.mono_l k
  ·intro y0 y1 y2 y3 y4
   unfold path_domains.l0
   repeat' first
   | (with_reducible first | exact ih0 _ _ _ _ _ | exact addr_Parse.mono _ _ | exact LeO.refl _ | exact LeO.none _ | refine LeO.ite ?_ ?_ | refine LeO.bind ?_ (fun _ => ?_))
theorem path_domains.mono : ∀ a0 k, LeO (path_domains.f k a0) (path_domains.f (k + 1) a0) := by
 intro a0 k
 have ih0 := path_domains.mono_l k
 unfold path_domains.f
 repeat' first
   | (with_reducible first | exact ih0 _ _ _ _ _ | exact addr_Parse.mono _ _ | exact LeO.refl _ | exact LeO.none _ | refine LeO.ite ?_ ?_ | refine LeO.bind ?_ (fun _ => ?_))
theorem path_domains.calls (k : Nat) (A0 : Option Addr) (c0 : Nat) (l0 : List ByteArray) (r : Int) (w : World) (hr0 : Kd.C Kd.string w A0 l0.length l0) (hc0 : l0.length ≤ c0) (hG : Glob w) (h : path_domains.f k l0 = some r) :
  Calls Tryz.prog 33 #[.slice A0 l0.length c0] w fun e w' => e = .returned (.int .i64 r) ∧ Below w.heap.size w w' := by
 have hu24 := Tryz.underlying24
 have HR0 := Aside0.mk hr0
 have HC0 := Aside0.mk hc0
 clear hr0 hc0
 have HB := Aside0.mk (Below.refl w.heap.size w)
 have HG := Aside0.mk hG
 clear hG
 have H : (path_domains.l0 k l0 0 l0 (l0.length : Int) 0) = some r := h
 clear h
 have H' := Aside0.mk H
 clear H
 go_enter Tryz.func33, Tryz.ntmps33
 go_wp2
 go_loopg [3, 10] k (fun kq v3 v10 w' => ∃ (x3_1 : Int) (x10_1 : Int), v3 = .int .i64 x3_1 ∧ v10 = .int .i64 x10_1 ∧ Aside0 (path_domains.l0 kq l0 x3_1 l0 (l0.length : Int) x10_1 = some r) ∧ Aside0 (kq ≤ k) ∧ Aside0 (Below w.heap.size w w'))
 case atStart => exact ⟨(0), (0), rs, rs, H', ⟨Nat.le_refl _⟩, ⟨bl⟩⟩
 case round =>
  clear H'
  obtain ⟨x3_1, x10_1, rfl, rfl, HA, HK1, HB⟩ := hrel
  cases gk with
  | zero => exact absurd HA.out (by simp [path_domains.l0])
  | succ k1 =>
   have H := HA.out
   clear HA
   simp only [path_domains.l0] at H
   by_cases c2 : x10_1 < (l0.length : Int)
   ·rw [if_pos c2] at H
    have c2b0 : decide (x10_1 < (l0.length : Int)) = true := decide_eq_true c2
    clear c2
    by_cases c3 : 0 ≤ x10_1
    rotate_left
    ·rw [if_neg c3] at H
     exact ab H
    rw [if_pos c3] at H
    have c3b0 : decide (0 ≤ x10_1) = true := decide_eq_true c3
    clear c3
    by_cases c4 : x10_1 < (l0.length : Int)
    rotate_left
    ·rw [if_neg c4] at H
     exact ab H
    rw [if_pos c4] at H
    have c4b0 : decide (x10_1 < (l0.length : Int)) = true := decide_eq_true c4
    clear c4
    by_cases c5 : 2 + (rdOf ByteArray.empty l0 x10_1).size ≤ 9223372036854775807
    rotate_left
    ·rw [if_neg c5] at H
     exact ab H
    rw [if_pos c5] at H
    have c5b0 := eq_true c5
    have c5b1 : decide (2 + (rdOf ByteArray.empty l0 x10_1).size ≤ 9223372036854775807) = true := decide_eq_true c5
    try have c5b2 : (9223372036854775807 < 2 + (rdOf ByteArray.empty l0 x10_1).size) = False := eq_false (Nat.not_lt.2 c5)
    obtain ⟨⟨t185, t186, t187⟩, A60, H⟩ := Option.bind_eq_some_iff.mp H
    replace H : (if t187 = 5 then (some t187) else (path_domains.l0 k1 l0 (mx x3_1 t187) l0 (l0.length : Int) (wrap64 (x10_1 + 1)))) = some r := H
    have A6 := Aside0.mk A60
    clear A60
    by_cases c7 : t187 = 5
    ·rw [if_pos c7] at H
     have c7b0 : (t187 == 5) = true := beq_iff_eq.mpr c7
     have c7b1 : (t187 != 5) = false := bne_eq_false_iff_eq.mpr c7
     clear c7
     obtain rfl := Option.some.inj H
     have p184 : 0 ≤ (x10_1 : Int) := od
     have q184 : x10_1 < (l0.length : Int) := od
     obtain ⟨ad184, e184, hx184_0⟩ := Kd.at_string HR0.out x10_1 p184 q184
     cases e184
     replace hx184_0 := (HB.out.cell (World.block_lt_of_cell? w _ hx184_0)).trans hx184_0
     replace p184 := eq_true p184
     replace q184 := eq_true q184
     go_wp2_with (first | ((with_reducible refine gate_callee (f := 35) rfl ?_); refine goesL_ (some 17) rfl rfl Tryz.func35 kf rfl #[.string ((⟨#[120, 64]⟩ : ByteArray) ++ (rdOf ByteArray.empty l0 x10_1))] rfl ml ?_; (with_reducible refine (addr_Parse.calls k1 ((⟨#[120, 64]⟩ : ByteArray) ++ (rdOf ByteArray.empty l0 x10_1)) t185 t186 t187 _ ?side1 A6.out).mono ?_); (case side1 => exact Glob.below HG.out bl); rintro e w8 ⟨rfl, hb⟩; refine ⟨_, rfl, ?_⟩; replace HB := Aside0.mk (below_step bl hb); (try clear hb); (try clear hb2); (try clear hk); (try clear hi)) | ((with_reducible refine gate_dst (N := 6) rfl ?_); refine box_event ?hg (N := 6) ?hd (cs := #[.string (⟨#[]⟩ : ByteArray), .string (⟨#[]⟩ : ByteArray)]) (t := 24) ?hr ?_; (case hd => rfl); (case hg => rfl); (case hr => first | (go_simp; done) | (go_simp; rfl)); intro gb188 hg w9 hbox hb; have BK188 := Aside0.mk (hbox); have GW188 := Aside0.mk (gz hg : w.heap.size ≤ gb188); have GE188 := Aside0.mk (gz hg : w.heap.size ≤ gb188); replace HB := Aside0.mk (below_step bl hb); clear hb hbox hg; have hcz10_0 := cz BK188.out 0 (.string (⟨#[]⟩ : ByteArray)); have hcz10_1 := cz BK188.out 1 (.string (⟨#[]⟩ : ByteArray)); have hfz10_0 := blk_frozen BK188.out 0; have hfz10_1 := blk_frozen BK188.out 1))
     go_ret
     exact ⟨rf, bl⟩
    ·rw [if_neg c7] at H
     have c7b0 : (t187 == 5) = false := beq_eq_false_iff_ne.mpr c7
     have c7b1 : (t187 != 5) = true := bne_iff_ne.mpr c7
     obtain ⟨ji11, hji11⟩ : ∃ j_ : Int, (mx x3_1 t187) = j_ := ⟨_, rfl⟩
     replace H : (path_domains.l0 k1 l0 ji11 l0 (l0.length : Int) (wrap64 (x10_1 + 1))) = some r := by first | (rw [hji11] at H; exact H) | (simp only [hji11] at H ⊢; exact H)
     (try rw [hji11] at A6)
     have hji11_ : (if x3_1 < t187 then t187 else x3_1) = ji11 := hji11
     have H' := Aside0.mk H
     clear H
     have p184 : 0 ≤ (x10_1 : Int) := od
     have q184 : x10_1 < (l0.length : Int) := od
     obtain ⟨ad184, e184, hx184_0⟩ := Kd.at_string HR0.out x10_1 p184 q184
     cases e184
     replace hx184_0 := (HB.out.cell (World.block_lt_of_cell? w _ hx184_0)).trans hx184_0
     replace p184 := eq_true p184
     replace q184 := eq_true q184
     go_wp2_with (first | ((with_reducible refine gate_callee (f := 35) rfl ?_); refine goesL_ (some 17) rfl rfl Tryz.func35 kf rfl #[.string ((⟨#[120, 64]⟩ : ByteArray) ++ (rdOf ByteArray.empty l0 x10_1))] rfl ml ?_; (with_reducible refine (addr_Parse.calls k1 ((⟨#[120, 64]⟩ : ByteArray) ++ (rdOf ByteArray.empty l0 x10_1)) t185 t186 t187 _ ?side1 A6.out).mono ?_); (case side1 => exact Glob.below HG.out bl); rintro e w12 ⟨rfl, hb⟩; refine ⟨_, rfl, ?_⟩; replace HB := Aside0.mk (below_step bl hb); (try clear hb); (try clear hb2); (try clear hk); (try clear hi)) | ((with_reducible refine gate_dst (N := 6) rfl ?_); refine box_event ?hg (N := 6) ?hd (cs := #[.string (⟨#[]⟩ : ByteArray), .string (⟨#[]⟩ : ByteArray)]) (t := 24) ?hr ?_; (case hd => rfl); (case hg => rfl); (case hr => first | (go_simp; done) | (go_simp; rfl)); intro gb188 hg w13 hbox hb; have BK188 := Aside0.mk (hbox); have GW188 := Aside0.mk (gz hg : w.heap.size ≤ gb188); have GE188 := Aside0.mk (gz hg : w.heap.size ≤ gb188); replace HB := Aside0.mk (below_step bl hb); clear hb hbox hg; have hcz14_0 := cz BK188.out 0 (.string (⟨#[]⟩ : ByteArray)); have hcz14_1 := cz BK188.out 1 (.string (⟨#[]⟩ : ByteArray)); have hfz14_0 := blk_frozen BK188.out 0; have hfz14_1 := blk_frozen BK188.out 1))
     go_roundg k1
     case measure => have := HK1.out; omega
     case rel => exact ⟨(ji11), (wrap64 (x10_1 + 1)), (by first | rfl | (simp; done) | (simp only [← hji11] <;> (first | rfl | simp)) | (simp [*]; done)), rs, H', ⟨by have := HK1.out; omega⟩, ⟨bl⟩⟩
   ·rw [if_neg c2] at H
    have c2b0 : decide (x10_1 < (l0.length : Int)) = false := decide_eq_false c2
    clear c2
    by_cases c15 : (l0.length : Int) > 8
    ·rw [if_pos c15] at H
     have c15b0 : decide (8 < (l0.length : Int)) = true := decide_eq_true c15
     have c15b1 : decide (8 < l0.length) = true := decide_eq_true (by omega)
     clear c15
     obtain rfl := Option.some.inj H
     go_wp2
     go_ret
     exact ⟨rf, bl⟩
    ·rw [if_neg c15] at H
     have c15b0 : decide (8 < (l0.length : Int)) = false := decide_eq_false c15
     have c15b1 : decide (8 < l0.length) = false := decide_eq_false (by omega)
     clear c15
     obtain rfl := Option.some.inj H
     go_wp2
     go_ret
     exact ⟨rf, bl⟩

/-! ### text_Lower: function 64 (by hand) -/
def lowC (c : UInt8) : UInt8 := if 65 ≤ c.toNat ∧ c.toNat ≤ 90 then c + 32 else c
def lowerB (s : ByteArray) : ByteArray := ⟨(s.data.toList.map lowC).toArray⟩
def text_Lower.f (a0 : ByteArray) : Option ByteArray := if a0.size < 70368744177000 then some (lowerB a0) else none
def lowT (s : ByteArray) (k : Nat) : List UInt8 := (s.data.toList.take k).map lowC ++ s.data.toList.drop k
/-- The row behind k rounds. -/
def LowRow (s : ByteArray) (k : Nat) (cs : Array Value) : Prop := ∀ j, j < s.size → cs[j]? = some (.int .u8 (((lowT s k).getD j 0).toNat : Nat))
theorem s_len (s : ByteArray) : s.data.toList.length = s.size := by rw [Array.length_toList]; rfl
theorem lowT_at (s : ByteArray) (k j : Nat) (hk : k ≤ s.size) (hj : j < s.size) : (lowT s k).getD j 0 = if j < k then lowC (s[j]'hj) else s[j]'hj := by
  have hl := s_len s
  unfold lowT
  rw [List.getD_eq_getElem?_getD]
  by_cases h : j < k
  · rw [if_pos h, List.getElem?_append_left (by simp; omega)]
    rw [List.getElem?_map, List.getElem?_take_of_lt h, List.getElem?_eq_getElem (by omega)]
    simp
    rfl
  · rw [if_neg h, List.getElem?_append_right (by simp; omega)]
    simp only [List.length_map, List.length_take, List.getElem?_drop]
    rw [show k + (j - min k s.data.toList.length) = j by omega, List.getElem?_eq_getElem (by omega)]
    simp
    rfl
theorem lowT_end (s : ByteArray) : lowT s s.size = s.data.toList.map lowC := by
  unfold lowT
  rw [List.take_of_length_le (by rw [s_len]; omega), List.drop_of_length_le (by rw [s_len]; omega), List.append_nil]
theorem LowRow.start {W w1 : World} {g e : Nat} {s : ByteArray} : LowRow s 0 (Lib.bytesCells w1 e s) := by
  intro j hj
  rw [lowT_at s 0 j (by omega) hj, if_neg (by omega)]
  simp [Lib.bytesCells, Array.getElem?_append, hj]
  rfl
theorem LowRow.same {s : ByteArray} {k : Nat} {cs : Array Value} (h : LowRow s k cs) (hk : k < s.size) (hc : lowC (s[k]'hk) = s[k]'hk) : LowRow s (k + 1) cs := by
  intro j hj
  rw [h j hj, lowT_at s k j (by omega) hj, lowT_at s (k + 1) j (by omega) hj]
  by_cases e : j = k
  · subst e; rw [if_neg (by omega), if_pos (by omega), hc]
  · by_cases l : j < k
    · rw [if_pos l, if_pos (by omega)]
    · rw [if_neg l, if_neg (by omega)]
theorem LowRow.put {s : ByteArray} {k : Nat} {cs : Array Value} (h : LowRow s k cs) (hk : k < s.size) (v : Nat) (hv : v = (lowC (s[k]'hk)).toNat) : LowRow s (k + 1) (cs.setIfInBounds k (.int .u8 (v : Nat))) := by
  intro j hj
  rw [Array.getElem?_setIfInBounds]
  have hsz : k < cs.size := (Array.getElem?_eq_some_iff.1 (h k hk)).1
  by_cases e : k = j
  · subst e
    rw [if_pos rfl, if_pos hsz, lowT_at s (k + 1) k (by omega) hj, if_pos (by omega), hv]
  · rw [if_neg e, h j hj, lowT_at s k j (by omega) hj, lowT_at s (k + 1) j (by omega) hj]
    by_cases l : j < k
    · rw [if_pos l, if_pos (by omega)]
    · rw [if_neg l, if_neg (by omega)]
theorem low_str (s : ByteArray) : strOfNums ((lowT s s.size).map fun c => (c.toNat : Int)) = lowerB s := by
  rw [lowT_end]
  unfold strOfNums lowerB
  simp [List.map_map, Function.comp_def]
theorem blk_setF {w : World} {g : Nat} {t : TypeId} {cs : Array Value} {fz : Nat × Nat} (h : w.heap[g]? = some (.cells cs t fz)) (i : Nat) (u : Value) : (w.setCell ⟨g, i, none⟩ u).heap[g]? = some (.cells (cs.setIfInBounds i u) t fz) := by
  simp [World.setCell, Array.getElem?_modify, h]
theorem text_Lower.calls (a0 : ByteArray) (r : ByteArray) (w : World) (h : text_Lower.f a0 = some r) :
    Calls Tryz.prog 64 #[.string a0] w fun e w' => e = .returned (.string r) ∧ Below w.heap.size w w' := by
  unfold text_Lower.f at h
  by_cases hsz : a0.size < 70368744177000
  · rw [if_pos hsz] at h
    obtain rfl := Option.some.inj h
    clear h
    have hcv := fun W => print_bytes (P := Tryz.prog) 9 55 5 Tryz.underlying9 Tryz.underlying55 Tryz.underlying5 a0 W
    go_enter Tryz.func64, Tryz.ntmps64
    go_wp2
    clear hcv
    have HG := Lib.hid (Lib.bytesWorld_at_new w 5 a0)
    have HB := Lib.hid (bytes_below (Below.refl w.heap.size w) (Nat.le_refl _) 5 a0)
    have HL := Lib.hid (LowRow.start (W := w) (w1 := w) (g := 0) (e := 5) (s := a0))
    have HC := Lib.hid (show a0.size ≤ (Lib.bytesCells w 5 a0).size by simp [Lib.bytesCells])
    obtain ⟨w3, hw3⟩ : ∃ w3, w3 = Lib.bytesWorld w 5 a0 := ⟨_, rfl⟩
    rw [← hw3] at HG HB ⊢
    clear hw3
    generalize Lib.bytesCells w 5 a0 = C at HG HL HC
    generalize grownCap w a0.size 0 5 = cap
    obtain ⟨g, hg⟩ : ∃ g, g = w.heap.size := ⟨_, rfl⟩
    have Hg := Lib.hid hg
    rw [← hg] at HG ⊢
    clear hg
    go_loopw [10] (fun v10 w' => ∃ (k : Nat) (cs : Array Value), v10 = .int .i64 k ∧ k ≤ a0.size ∧ Aside0 (w'.heap[g]? = some (.cells cs 5 (C.size, C.size + 1))) ∧ Aside0 (LowRow a0 k cs) ∧ Aside0 (Below w.heap.size w w')) (fun v10 _ => a0.size - (intOf v10).toNat)
    case atStart => exact ⟨0, C, rfl, Nat.zero_le _, ⟨HG.out⟩, ⟨HL.out⟩, ⟨HB.out⟩⟩
    case round =>
      clear HG HL HB
      obtain ⟨k, cs, rfl, hk, HG, HL, HB⟩ := hrel
      by_cases hlt : k < a0.size
      · have hcell : wr.cell? ⟨g, k, none⟩ = some (.int .u8 ((a0[k]'hlt).toNat : Nat)) := by
          rw [World.cell?]
          simp only [HG.out]
          have := HL.out k hlt
          rw [lowT_at a0 k k (by omega) hlt, if_neg (by omega)] at this
          simpa using this
        have hfz : wr.frozen? ⟨g, k, none⟩ = false := by
          have := HC.out
          simp only [World.frozen?, HG.out]
          simp
          omega
        have HP := Lib.hid (HL.out.put hlt)
        have HE := Lib.hid (HL.out.same hlt)
        have hc256 : (a0[k]'hlt).toNat < 256 := UInt8.toNat_lt _
        have Hlow : Hid ((lowC (a0[k]'hlt)).toNat = if 65 ≤ (a0[k]'hlt).toNat ∧ (a0[k]'hlt).toNat ≤ 90 then (a0[k]'hlt).toNat + 32 else (a0[k]'hlt).toNat) := Lib.hid (by
          unfold lowC
          split
          · rw [UInt8.toNat_add]; simp; omega
          · rfl)
        obtain ⟨d, hd⟩ : ∃ d, d = a0[k]'hlt := ⟨_, rfl⟩
        rw [← hd] at HP HE Hlow hcell hc256
        obtain ⟨c, hc⟩ : ∃ c : Nat, c = d.toNat := ⟨_, rfl⟩
        rw [← hc] at Hlow hcell hc256
        have Hc := Lib.hid hc
        clear hc hd
        by_cases h1 : 65 ≤ c
        · have b1 : decide (65 ≤ (c : Int)) = true := decide_eq_true (by omega)
          by_cases h2 : c ≤ 90
          · have b2 : decide ((c : Int) ≤ 90) = true := decide_eq_true (by omega)
            go_wp2
            go_roundw
            case rel => exact ⟨k + 1, _, by go_num, hlt, ⟨blk_setF HG.out k _⟩, ⟨by
              have hv := HP.out (c + 32) (by rw [Hlow.out, if_pos ⟨h1, h2⟩])
              have e : ((c : Int) + 97 - 65) = ((c + 32 : Nat) : Int) := by omega
              first | (rw [e]; exact hv) | exact hv⟩, ⟨below_set HB.out (by have := Hg.out; omega)⟩⟩
            case measure => simp [intOf]; omega
          · have b2 : decide ((c : Int) ≤ 90) = false := decide_eq_false (by omega)
            go_wp2
            go_roundw
            case rel => exact ⟨k + 1, cs, by go_num, hlt, HG, ⟨HE.out (UInt8.toNat_inj.mp (by rw [Hlow.out, if_neg (by omega), Hc.out]))⟩, HB⟩
            case measure => simp [intOf]; omega
        · have b1 : decide (65 ≤ (c : Int)) = false := decide_eq_false (by omega)
          go_wp2
          go_roundw
          case rel => exact ⟨k + 1, cs, by go_num, hlt, HG, ⟨HE.out (UInt8.toNat_inj.mp (by rw [Hlow.out, if_neg (by omega), Hc.out]))⟩, HB⟩
          case measure => simp [intOf]; omega
      · have hk' : k = a0.size := by omega
        subst hk'
        have hcs := run_convert_bytes_arg (P := Tryz.prog) wr 55 5 Tryz.underlying55 Tryz.underlying5 g 0 a0.size cap ((lowT a0 a0.size).map fun c => (c.toNat : Int)) (by rw [List.length_map, lowT_end, List.length_map, s_len]) (fun i hi => by
          rw [Nat.zero_add, World.cell?]
          simp only [HG.out]
          have := HL.out i hi
          rw [lowT_end] at this ⊢
          have hl : i < a0.data.toList.length := by rw [s_len]; exact hi
          simp only [List.getD_eq_getElem?_getD, List.getElem?_map, List.getElem?_eq_getElem hl, Option.map_some, Option.getD_some] at this ⊢
          exact this) 9 Tryz.underlying9
        rw [low_str] at hcs
        go_wp2
        go_ret
        exact ⟨rfl, HB.out⟩
  · rw [if_neg hsz] at h; cases h


/-! ### text_Same: function 34 -/
def text_Same.f (a0 : ByteArray) (a1 : ByteArray) : Option (Bool) := (text_Lower.f a0).bind fun t189 => ((text_Lower.f a1).bind fun t190 => (some (t189.toList == t190.toList)))
theorem text_Same.calls (a0 : ByteArray) (a1 : ByteArray) (r : Bool) (w : World) (h : text_Same.f a0 a1 = some r) :
  Calls Tryz.prog 34 #[.string a0, .string a1] w fun e w' => e = .returned (.bool r) ∧ Below w.heap.size w w' := by
 have HB := Aside0.mk (Below.refl w.heap.size w)
 have H : ((text_Lower.f a0).bind fun t189 => ((text_Lower.f a1).bind fun t190 => (some (t189.toList == t190.toList)))) = some r := h
 clear h
 obtain ⟨t189, A30, H⟩ := Option.bind_eq_some_iff.mp H
 replace H : ((text_Lower.f a1).bind fun t190 => (some (t189.toList == t190.toList))) = some r := H
 have A3 := Aside0.mk A30
 clear A30
 obtain ⟨t190, A40, H⟩ := Option.bind_eq_some_iff.mp H
 replace H : (some (t189.toList == t190.toList)) = some r := H
 have A4 := Aside0.mk A40
 clear A40
 obtain rfl := Option.some.inj H
 go_enter Tryz.func34, Tryz.ntmps34
 go_wp2_with (first | ((with_reducible refine gate_callee (f := 64) rfl ?_); refine goesL_ (some 6) rfl rfl Tryz.func64 kf rfl #[.string a0] rfl ml ?_; (with_reducible refine (text_Lower.calls a0 t189 _ A3.out).mono ?_); rintro e w5 ⟨rfl, hb⟩; refine ⟨_, rfl, ?_⟩; replace HB := Aside0.mk (below_step bl hb); (try clear hb); (try clear hb2); (try clear hk); (try clear hi)) | ((with_reducible refine gate_callee (f := 64) rfl ?_); refine goesL_ (some 8) rfl rfl Tryz.func64 kf rfl #[.string a1] rfl ml ?_; (with_reducible refine (text_Lower.calls a1 t190 _ A4.out).mono ?_); rintro e w6 ⟨rfl, hb⟩; refine ⟨_, rfl, ?_⟩; replace HB := Aside0.mk (below_step bl hb); (try clear hb); (try clear hb2); (try clear hk); (try clear hi)))
 go_ret
 exact ⟨rf, bl⟩

end Go.Proofs.YtgelfnjicglmbaaGreatDoor.Q
end
section
namespace Go.Proofs.YtgelfnjicglmbaaGreatDoor.Q

/-! ### path_Parse: function 13 -/
mutual
def path_Parse.j0 : Nat → ByteArray → List ByteArray → ByteArray → Int → Bool → Option (Bool × Bool × List ByteArray × ByteArray × ByteArray × ByteArray × Int)
 | 0, _, _, _, _, _ => none
 | k + 1, x0, x7, x8, x9, x37 => if x37 = true then (some (false, false, ([] : List ByteArray), (⟨#[]⟩ : ByteArray), (⟨#[]⟩ : ByteArray), (⟨#[]⟩ : ByteArray), 5)) else (if 0 ≤ x9 then (if x9 ≤ (x8.size : Int) then (if 0 ≤ (wrap64 (x9 + 1)) then (if (wrap64 (x9 + 1)) ≤ (x8.size : Int) then ((path_domains.f k x7).bind fun t201 => (if (x8.extract 0 (x9 : Int).toNat).toList = ([] : List UInt8) then (path_Parse.j1 k x0 x7 (x8.extract 0 (x9 : Int).toNat) (x8.extract ((wrap64 (x9 + 1)) : Int).toNat x8.size) t201 ((x7.length : Int) == 0) false false x7 (⟨#[]⟩ : ByteArray) (⟨#[]⟩ : ByteArray)) else (path_Parse.j1 k x0 x7 (x8.extract 0 (x9 : Int).toNat) (x8.extract ((wrap64 (x9 + 1)) : Int).toNat x8.size) t201 false false false x7 (⟨#[]⟩ : ByteArray) (⟨#[]⟩ : ByteArray)))) else (none)) else (none)) else (none)) else (none))
def path_Parse.j1 : Nat → ByteArray → List ByteArray → ByteArray → ByteArray → Int → Bool → Bool → Bool → List ByteArray → ByteArray → ByteArray → Option (Bool × Bool × List ByteArray × ByteArray × ByteArray × ByteArray × Int)
 | 0, _, _, _, _, _, _, _, _, _, _, _ => none
 | k + 1, x0, x7, x11, x12, x13, x67, x201000, x201001, x201002, x201003, x201004 => if x67 = true then (if x13 = 0 then (if (wrap64 ((x0.size : Int) - (x12.size : Int))) > 256 then (some (false, false, ([] : List ByteArray), (⟨#[]⟩ : ByteArray), (⟨#[]⟩ : ByteArray), (⟨#[]⟩ : ByteArray), 3)) else (some (true, x201001, x201002, x201003, x201004, x12, 0))) else (some (false, false, ([] : List ByteArray), (⟨#[]⟩ : ByteArray), (⟨#[]⟩ : ByteArray), (⟨#[]⟩ : ByteArray), 3))) else ((text_Same.f x11 (⟨#[112, 111, 115, 116, 109, 97, 115, 116, 101, 114]⟩ : ByteArray)).bind fun t202 => (if t202 = true then (path_Parse.j2 k x0 x11 x12 x13 ((x7.length : Int) == 0) x201000 x201001 x201002 x201003 x201004) else (path_Parse.j2 k x0 x11 x12 x13 false x201000 x201001 x201002 x201003 x201004)))
def path_Parse.j2 : Nat → ByteArray → ByteArray → ByteArray → Int → Bool → Bool → Bool → List ByteArray → ByteArray → ByteArray → Option (Bool × Bool × List ByteArray × ByteArray × ByteArray × ByteArray × Int)
 | 0, _, _, _, _, _, _, _, _, _, _ => none
 | k + 1, x0, x11, x12, x13, x76, x201000, x201001, x201002, x201003, x201004 => if x76 = true then (if x13 = 0 then (if (wrap64 ((x0.size : Int) - (x12.size : Int))) > 256 then (some (false, false, ([] : List ByteArray), (⟨#[]⟩ : ByteArray), (⟨#[]⟩ : ByteArray), (⟨#[]⟩ : ByteArray), 3)) else (some (x201000, true, x201002, x201003, x201004, x12, 0))) else (some (false, false, ([] : List ByteArray), (⟨#[]⟩ : ByteArray), (⟨#[]⟩ : ByteArray), (⟨#[]⟩ : ByteArray), 3))) else ((addr_Parse.f k x11).bind fun bt203 => (if bt203.2.2 = 5 then (path_Parse.j3 k x0 x12 x13 bt203.2.2 true x201000 x201001 x201002 x201003 x201004 bt203.1 bt203.2.1) else (path_Parse.j3 k x0 x12 x13 bt203.2.2 (x13 == 5) x201000 x201001 x201002 x201003 x201004 bt203.1 bt203.2.1)))
def path_Parse.j3 : Nat → ByteArray → ByteArray → Int → Int → Bool → Bool → Bool → List ByteArray → ByteArray → ByteArray → ByteArray → ByteArray → Option (Bool × Bool × List ByteArray × ByteArray × ByteArray × ByteArray × Int)
 | 0, _, _, _, _, _, _, _, _, _, _, _, _ => none
 | k + 1, x0, x12, x13, x15, x60, x201000, x201001, x201002, x201003, x201004, x207000, x207001 => if x60 = true then (some (false, false, ([] : List ByteArray), (⟨#[]⟩ : ByteArray), (⟨#[]⟩ : ByteArray), (⟨#[]⟩ : ByteArray), 5)) else (if (mx x13 x15) = 0 then (if (wrap64 ((x0.size : Int) - (x12.size : Int))) > 256 then (some (false, false, ([] : List ByteArray), (⟨#[]⟩ : ByteArray), (⟨#[]⟩ : ByteArray), (⟨#[]⟩ : ByteArray), 3)) else (some (x201000, x201001, x201002, x207000, x207001, x12, 0))) else (some (false, false, ([] : List ByteArray), (⟨#[]⟩ : ByteArray), (⟨#[]⟩ : ByteArray), (⟨#[]⟩ : ByteArray), 3)))
end
def path_Parse.f (k : Nat) (a0 : ByteArray) : Option (Bool × Bool × List ByteArray × ByteArray × ByteArray × ByteArray × Int) := (strings_CutPrefix.f a0 (⟨#[60]⟩ : ByteArray)).bind fun bt192 => (if bt192.2 = true then ((path_route.f k bt192.1).bind fun bt194 => ((path_ends.f k bt194.2.1).bind fun t199 => (if bt194.2.2 = true then (path_Parse.j0 k a0 bt194.1 bt194.2.1 t199 (decide (t199 < 0))) else (path_Parse.j0 k a0 bt194.1 bt194.2.1 t199 true)))) else (some (false, false, ([] : List ByteArray), (⟨#[]⟩ : ByteArray), (⟨#[]⟩ : ByteArray), (⟨#[]⟩ : ByteArray), 5)))
theorem path_Parse.mono_l : ∀ k, (∀ y0 y1 y2 y3 y4, LeO (path_Parse.j0 k y0 y1 y2 y3 y4) (path_Parse.j0 (k + 1) y0 y1 y2 y3 y4)) ∧ (∀ y0 y1 y2 y3 y4 y5 y6 y7 y8 y9 y10, LeO (path_Parse.j1 k y0 y1 y2 y3 y4 y5 y6 y7 y8 y9 y10) (path_Parse.j1 (k + 1) y0 y1 y2 y3 y4 y5 y6 y7 y8 y9 y10)) ∧ (∀ y0 y1 y2 y3 y4 y5 y6 y7 y8 y9, LeO (path_Parse.j2 k y0 y1 y2 y3 y4 y5 y6 y7 y8 y9) (path_Parse.j2 (k + 1) y0 y1 y2 y3 y4 y5 y6 y7 y8 y9)) ∧ (∀ y0 y1 y2 y3 y4 y5 y6 y7 y8 y9 y10 y11, LeO (path_Parse.j3 k y0 y1 y2 y3 y4 y5 y6 y7 y8 y9 y10 y11) (path_Parse.j3 (k + 1) y0 y1 y2 y3 y4 y5 y6 y7 y8 y9 y10 y11))
 | 0 => ⟨fun _ _ _ _ _ r h => by simp [path_Parse.j0] at h, fun _ _ _ _ _ _ _ _ _ _ _ r h => by simp [path_Parse.j1] at h, fun _ _ _ _ _ _ _ _ _ _ r h => by simp [path_Parse.j2] at h, fun _ _ _ _ _ _ _ _ _ _ _ _ r h => by simp [path_Parse.j3] at h⟩
 | k + 1 => by
  obtain ⟨ih0, ih1, ih2, ih3⟩ := path_Parse.mono_l k
  refine ⟨?_, ?_, ?_, ?_⟩
  ·intro y0 y1 y2 y3 y4
   unfold path_Parse.j0
   repeat' first
   | (with_reducible first | exact ih0 _ _ _ _ _ | exact ih1 _ _ _ _ _ _ _ _ _ _ _ | exact ih2 _ _ _ _ _ _ _ _ _ _ | exact ih3 _ _ _ _ _ _ _ _ _ _ _ _ | exact addr_Parse.mono _ _ | exact path_domains.mono _ _ | exact path_ends.mono _ _ | exact path_route.mono _ _ | exact LeO.refl _ | exact LeO.none _ | refine LeO.ite ?_ ?_ | refine LeO.bind ?_ (fun _ => ?_))
  ·intro y0 y1 y2 y3 y4 y5 y6 y7 y8 y9 y10
   unfold path_Parse.j1
   repeat' first
   | (with_reducible first | exact ih0 _ _ _ _ _ | exact ih1 _ _ _ _ _ _ _ _ _ _ _ | exact ih2 _ _ _ _ _ _ _ _ _ _ | exact ih3 _ _ _ _ _ _ _ _ _ _ _ _ | exact addr_Parse.mono _ _ | exact path_domains.mono _ _ | exact path_ends.mono _ _ | exact path_route.mono _ _ | exact LeO.refl _ | exact LeO.none _ | refine LeO.ite ?_ ?_ | refine LeO.bind ?_ (fun _ => ?_))
  ·intro y0 y1 y2 y3 y4 y5 y6 y7 y8 y9
   unfold path_Parse.j2
   repeat' first
   | (with_reducible first | exact ih0 _ _ _ _ _ | exact ih1 _ _ _ _ _ _ _ _ _ _ _ | exact ih2 _ _ _ _ _ _ _ _ _ _ | exact ih3 _ _ _ _ _ _ _ _ _ _ _ _ | exact addr_Parse.mono _ _ | exact path_domains.mono _ _ | exact path_ends.mono _ _ | exact path_route.mono _ _ | exact LeO.refl _ | exact LeO.none _ | refine LeO.ite ?_ ?_ | refine LeO.bind ?_ (fun _ => ?_))
  ·intro y0 y1 y2 y3 y4 y5 y6 y7 y8 y9 y10 y11
   unfold path_Parse.j3
   repeat' first
   | (with_reducible first | exact ih0 _ _ _ _ _ | exact ih1 _ _ _ _ _ _ _ _ _ _ _ | exact ih2 _ _ _ _ _ _ _ _ _ _ | exact ih3 _ _ _ _ _ _ _ _ _ _ _ _ | exact addr_Parse.mono _ _ | exact path_domains.mono _ _ | exact path_ends.mono _ _ | exact path_route.mono _ _ | exact LeO.refl _ | exact LeO.none _ | refine LeO.ite ?_ ?_ | refine LeO.bind ?_ (fun _ => ?_))
theorem path_Parse.mono : ∀ a0 k, LeO (path_Parse.f k a0) (path_Parse.f (k + 1) a0) := by
 intro a0 k
 obtain ⟨ih0, ih1, ih2, ih3⟩ := path_Parse.mono_l k
 unfold path_Parse.f
 repeat' first
   | (with_reducible first | exact ih0 _ _ _ _ _ | exact ih1 _ _ _ _ _ _ _ _ _ _ _ | exact ih2 _ _ _ _ _ _ _ _ _ _ | exact ih3 _ _ _ _ _ _ _ _ _ _ _ _ | exact addr_Parse.mono _ _ | exact path_domains.mono _ _ | exact path_ends.mono _ _ | exact path_route.mono _ _ | exact LeO.refl _ | exact LeO.none _ | refine LeO.ite ?_ ?_ | refine LeO.bind ?_ (fun _ => ?_))
def path_Parse.T8 : Bool × List (List Nat × List Nat) := (true, [([], []), ([0], [0]), ([], []), ([], []), ([2, 3], [2, 3]), ([], []), ([], []), ([6], [6]), ([5, 7], [5, 7]), ([], []), ([9, 1, 0, 1, 9], [1, 9]), ([4, 10, 0, 1, 2, 3, 4, 9, 10], [4]), ([8, 11, 0, 1, 2, 3, 4, 5, 6, 7, 8, 9, 10, 11], [8])])
def path_Parse.B8 : List Nat := [0, 1, 0, 0, 12, 0, 0, 64, 224, 0, 515, 1567, 4095]
theorem path_Parse.tab8 : rtab .any (opsOf Tryz.f13 8) = path_Parse.T8 := by kernel_rfl
theorem path_Parse.bits8 : waitsOk path_Parse.T8.2 path_Parse.B8 = true := by kernel_rfl
theorem path_Parse.calls (k : Nat) (a0 : ByteArray) (r1 : Bool) (r2 : Bool) (r3 : List ByteArray) (r4 : ByteArray) (r5 : ByteArray) (r6 : ByteArray) (r7 : Int) (w : World) (hG : Glob w) (h : path_Parse.f k a0 = some (r1, r2, r3, r4, r5, r6, r7)) :
  Calls Tryz.prog 13 #[.string a0] w fun e w' => ∃ v2_ : Value, e = .returned (.tuple #[.agg #[.bool r1, .bool r2, v2_, .string r4, .string r5], .string r6, .int .i64 r7]) ∧ Kd.R Kd.string 9 w' w.heap.size (fun _ => True) v2_ r3 ∧ Below w.heap.size w w' := by
 have hu26 := Tryz.underlying26
 have hu24 := Tryz.underlying24
 have HB := Aside0.mk (Below.refl w.heap.size w)
 have HG := Aside0.mk hG
 clear hG
 have H : ((strings_CutPrefix.f a0 (⟨#[60]⟩ : ByteArray)).bind fun bt192 => (if bt192.2 = true then ((path_route.f k bt192.1).bind fun bt194 => ((path_ends.f k bt194.2.1).bind fun t199 => (if bt194.2.2 = true then (path_Parse.j0 k a0 bt194.1 bt194.2.1 t199 (decide (t199 < 0))) else (path_Parse.j0 k a0 bt194.1 bt194.2.1 t199 true)))) else (some (false, false, ([] : List ByteArray), (⟨#[]⟩ : ByteArray), (⟨#[]⟩ : ByteArray), (⟨#[]⟩ : ByteArray), 5)))) = some (r1, r2, r3, r4, r5, r6, r7) := h
 clear h
 obtain ⟨⟨t192, t193⟩, A20, H⟩ := Option.bind_eq_some_iff.mp H
 replace H : (if t193 = true then ((path_route.f k t192).bind fun bt194 => ((path_ends.f k bt194.2.1).bind fun t199 => (if bt194.2.2 = true then (path_Parse.j0 k a0 bt194.1 bt194.2.1 t199 (decide (t199 < 0))) else (path_Parse.j0 k a0 bt194.1 bt194.2.1 t199 true)))) else (some (false, false, ([] : List ByteArray), (⟨#[]⟩ : ByteArray), (⟨#[]⟩ : ByteArray), (⟨#[]⟩ : ByteArray), 5))) = some (r1, r2, r3, r4, r5, r6, r7) := H
 have A2 := Aside0.mk A20
 clear A20
 by_cases c3 : t193 = true
 ·subst c3
  replace H : ((path_route.f k t192).bind fun bt194 => ((path_ends.f k bt194.2.1).bind fun t199 => (if bt194.2.2 = true then (path_Parse.j0 k a0 bt194.1 bt194.2.1 t199 (decide (t199 < 0))) else (path_Parse.j0 k a0 bt194.1 bt194.2.1 t199 true)))) = some (r1, r2, r3, r4, r5, r6, r7) := by rw [if_pos rfl] at H; exact H
  obtain ⟨⟨t194, t195, t196⟩, A40, H⟩ := Option.bind_eq_some_iff.mp H
  replace H : ((path_ends.f k t195).bind fun t199 => (if t196 = true then (path_Parse.j0 k a0 t194 t195 t199 (decide (t199 < 0))) else (path_Parse.j0 k a0 t194 t195 t199 true))) = some (r1, r2, r3, r4, r5, r6, r7) := H
  have A4 := Aside0.mk A40
  clear A40
  obtain ⟨t199, A50, H⟩ := Option.bind_eq_some_iff.mp H
  replace H : (if t196 = true then (path_Parse.j0 k a0 t194 t195 t199 (decide (t199 < 0))) else (path_Parse.j0 k a0 t194 t195 t199 true)) = some (r1, r2, r3, r4, r5, r6, r7) := H
  have A5 := Aside0.mk A50
  clear A50
  have HC6 := Aside0.mk H
  clear H
  go_enter Tryz.func13, Tryz.ntmps13
  go_upto_region 6 with (first | ((with_reducible refine gate_dst (N := 2) rfl ?_); (try (refine gate_guard (by rfl) ?_; dsimp only)); refine box_event ?hg (N := 2) ?hd (cs := #[.bool false, .bool false, .slice none 0 0, .string (⟨#[]⟩ : ByteArray), .string (⟨#[]⟩ : ByteArray)]) (t := 26) ?hr ?_; (case hd => rfl); (case hg => rfl); (case hr => first | (go_simp; done) | (go_simp; rfl)); intro gb191 hg w7 hbox hb; have BK191 := Aside0.mk (hbox); have GW191 := Aside0.mk (gz hg : w.heap.size ≤ gb191); have GE191 := Aside0.mk (gz hg : w.heap.size ≤ gb191); replace HB := Aside0.mk (below_step bl hb); clear hb hbox hg) | ((with_reducible refine gate_callee (f := 30) rfl ?_); refine goesL_ (some 18) rfl rfl Tryz.func30 kf rfl #[.string a0, .string (⟨#[60]⟩ : ByteArray)] rfl ml ?_; (with_reducible refine (strings_CutPrefix.calls a0 (⟨#[60]⟩ : ByteArray) t192 true _ A2.out).mono ?_); rintro e w' ⟨rfl, ⟨nd, rfl⟩⟩; refine ⟨_, rfl, ?_⟩) | ((with_reducible refine gate_callee (f := 31) rfl ?_); refine goesL_ (some 26) rfl rfl Tryz.func31 kf rfl #[.string t192] rfl ml ?_; (with_reducible refine (path_route.calls k t192 t194 t195 t196 _ ?side1 A4.out).mono ?_); (case side1 => exact Glob.below HG.out bl); rintro e w8 ⟨v197, rfl, ho0, hb⟩; refine ⟨_, rfl, ?_⟩; have HO198 := Aside0.mk (Kd.R_lower ho0 (below_size bl)); replace BK191 := Aside0.mk (kb BK191.out hb); replace HB := Aside0.mk (below_step bl hb); (try clear hb); (try clear hb2); (try clear hk); (try clear hi); (try clear ho0)) | ((with_reducible refine gate_callee (f := 32) rfl ?_); refine goesL_ (some 31) rfl rfl Tryz.func32 kf rfl #[.string t195] rfl ml ?_; (with_reducible refine (path_ends.calls k t195 t199 _ A5.out).mono ?_); rintro e w9 ⟨rfl, hb⟩; refine ⟨_, rfl, ?_⟩; replace HO198 := Aside0.mk (Kd.R_below (kr HO198.out) hb); replace BK191 := Aside0.mk (kb BK191.out hb); replace HB := Aside0.mk (below_step bl hb); (try clear hb); (try clear hb2); (try clear hk); (try clear hi)))
  (try simp only [Act.put, sA, sB, sC])
  go_cut [37] (fun v37 wc => ∃ (kq : Nat) (x37_5 : Bool), v37 = .bool x37_5 ∧ Aside0 (path_Parse.j0 kq a0 t194 t195 t199 x37_5 = some (r1, r2, r3, r4, r5, r6, r7)) ∧ Aside0 (kq ≤ k) ∧ Aside0 (Kd.R Kd.string 9 wc w.heap.size (fun _ => True) v197 t194) ∧ Aside0 (wc.heap[gb191]? = some (.cells #[.bool false, .bool false, (.slice none 0 0), .string (⟨#[]⟩ : ByteArray), .string (⟨#[]⟩ : ByteArray)] 26 (0, 0))) ∧ Aside0 (Below w.heap.size w wc))
  case first =>
   have H := HC6.out
   clear HC6
   by_cases c10 : t196 = true
   ·subst c10
    replace H : (path_Parse.j0 k a0 t194 t195 t199 (decide (t199 < 0))) = some (r1, r2, r3, r4, r5, r6, r7) := by rw [if_pos rfl] at H; exact H
    have H' := Aside0.mk H
    clear H
    go_wp2
    go_meet
    case rel => exact ⟨_, (decide (t199 < 0)), rs, H', ⟨by first | omega | exact Nat.le_refl _⟩, ⟨kr HO198.out⟩, ⟨bk BK191.out⟩, ⟨bl⟩⟩
   ·replace c10 := Bool.eq_false_iff.mpr c10
    subst c10
    replace H : (path_Parse.j0 k a0 t194 t195 t199 true) = some (r1, r2, r3, r4, r5, r6, r7) := by rw [if_neg (show ¬ (false = true) by decide)] at H; exact H
    have H' := Aside0.mk H
    clear H
    go_wp2
    go_meet
    case rel => exact ⟨_, (true), rs, H', ⟨by first | omega | exact Nat.le_refl _⟩, ⟨kr HO198.out⟩, ⟨bk BK191.out⟩, ⟨bl⟩⟩
  case rest =>
   clear HC6
   try clear c1
   try clear p2
   try clear c3
   try clear c10
   obtain ⟨kq, x37_5, rfl, HA, HJ5, HO_7, BK191, HB⟩ := hcut
   cases kq with
   | zero => exact absurd HA.out (by simp [path_Parse.j0])
   | succ kj5 =>
    have H := HA.out
    clear HA
    simp only [path_Parse.j0] at H
    by_cases c11 : x37_5 = true
    ·subst c11
     replace H : (some (false, false, ([] : List ByteArray), (⟨#[]⟩ : ByteArray), (⟨#[]⟩ : ByteArray), (⟨#[]⟩ : ByteArray), 5)) = some (r1, r2, r3, r4, r5, r6, r7) := by rw [if_pos rfl] at H; exact H
     simp only [Option.some.injEq, Prod.mk.injEq] at H
     obtain ⟨rfl, rfl, rfl, rfl, rfl, rfl, rfl⟩ := H
     have hcz12_0 := cz BK191.out 0 (.bool false)
     have hcz12_1 := cz BK191.out 1 (.bool false)
     have hcz12_2 := cz BK191.out 2 (.slice none 0 0)
     have hcz12_3 := cz BK191.out 3 (.string (⟨#[]⟩ : ByteArray))
     have hcz12_4 := cz BK191.out 4 (.string (⟨#[]⟩ : ByteArray))
     have hfz12_0 := blk_frozen BK191.out 0
     have hfz12_1 := blk_frozen BK191.out 1
     have hfz12_2 := blk_frozen BK191.out 2
     have hfz12_3 := blk_frozen BK191.out 3
     have hfz12_4 := blk_frozen BK191.out 4
     go_wp2
     refine bodyPost_ret (results_ctt rfl _ _ gb191 26 #[.bool false, .bool false, .slice none 0 0, .string (⟨#[]⟩ : ByteArray), .string (⟨#[]⟩ : ByteArray)] (0, 0) _ rfl (by (with_reducible repeat (first | refine blk_drewN ?_ _ | refine blk_drew ?_ | refine blk_alloc ?_ _)); refine blk_put (cs := #[.bool false, .bool false, .slice none 0 0, .string (⟨#[]⟩ : ByteArray), .string (⟨#[]⟩ : ByteArray)]) ?_ 4 _ rfl; (with_reducible repeat (first | refine blk_drewN ?_ _ | refine blk_drew ?_ | refine blk_alloc ?_ _)); refine blk_put (cs := #[.bool false, .bool false, .slice none 0 0, .string (⟨#[]⟩ : ByteArray), .string (⟨#[]⟩ : ByteArray)]) ?_ 3 _ rfl; (with_reducible repeat (first | refine blk_drewN ?_ _ | refine blk_drew ?_ | refine blk_alloc ?_ _)); refine blk_put (cs := #[.bool false, .bool false, .slice none 0 0, .string (⟨#[]⟩ : ByteArray), .string (⟨#[]⟩ : ByteArray)]) ?_ 2 _ rfl; (with_reducible repeat (first | refine blk_drewN ?_ _ | refine blk_drew ?_ | refine blk_alloc ?_ _)); refine blk_put (cs := #[.bool false, .bool false, .slice none 0 0, .string (⟨#[]⟩ : ByteArray), .string (⟨#[]⟩ : ByteArray)]) ?_ 1 _ rfl; (with_reducible repeat (first | refine blk_drewN ?_ _ | refine blk_drew ?_ | refine blk_alloc ?_ _)); refine blk_put (cs := #[.bool false, .bool false, .slice none 0 0, .string (⟨#[]⟩ : ByteArray), .string (⟨#[]⟩ : ByteArray)]) ?_ 0 _ rfl; (with_reducible repeat (first | refine blk_drewN ?_ _ | refine blk_drew ?_ | refine blk_alloc ?_ _)); exact BK191.out) Tryz.underlying26 rfl kf) rfl ?_
     exact ⟨_, by first | rfl | (simp [errW_none, errW_some] <;> rfl) | (simp [*, errW_none, errW_some] <;> rfl), by first | exact Kd.R_nil _ _ _ _ _ | exact Kd.N_nil _ _ _ _ _ | exact Kd.V_nil _ _ _ _ _ | exact Kd.Q_nil _ _ _ _ _ | exact Kd.S_nil _ _ _ _ _, bl⟩
    ·replace c11 := Bool.eq_false_iff.mpr c11
     subst c11
     replace H : (if 0 ≤ t199 then (if t199 ≤ (t195.size : Int) then (if 0 ≤ (wrap64 (t199 + 1)) then (if (wrap64 (t199 + 1)) ≤ (t195.size : Int) then ((path_domains.f kj5 t194).bind fun t201 => (if (t195.extract 0 (t199 : Int).toNat).toList = ([] : List UInt8) then (path_Parse.j1 kj5 a0 t194 (t195.extract 0 (t199 : Int).toNat) (t195.extract ((wrap64 (t199 + 1)) : Int).toNat t195.size) t201 ((t194.length : Int) == 0) false false t194 (⟨#[]⟩ : ByteArray) (⟨#[]⟩ : ByteArray)) else (path_Parse.j1 kj5 a0 t194 (t195.extract 0 (t199 : Int).toNat) (t195.extract ((wrap64 (t199 + 1)) : Int).toNat t195.size) t201 false false false t194 (⟨#[]⟩ : ByteArray) (⟨#[]⟩ : ByteArray)))) else (none)) else (none)) else (none)) else (none)) = some (r1, r2, r3, r4, r5, r6, r7) := by rw [if_neg (show ¬ (false = true) by decide)] at H; exact H
     by_cases c13 : 0 ≤ t199
     rotate_left
     ·rw [if_neg c13] at H
      exact ab H
     rw [if_pos c13] at H
     have c13b0 := eq_true c13
     have c13b1 : decide (0 ≤ t199) = true := decide_eq_true c13
     clear c13
     by_cases c14 : t199 ≤ (t195.size : Int)
     rotate_left
     ·rw [if_neg c14] at H
      exact ab H
     rw [if_pos c14] at H
     have c14b0 := eq_true c14
     have c14b1 : decide (t199 ≤ (t195.size : Int)) = true := decide_eq_true c14
     clear c14
     obtain ⟨js15, hjs15⟩ : ∃ j_ : ByteArray, (t195.extract 0 (t199 : Int).toNat) = j_ := ⟨_, rfl⟩
     replace H : (if 0 ≤ (wrap64 (t199 + 1)) then (if (wrap64 (t199 + 1)) ≤ (t195.size : Int) then ((path_domains.f kj5 t194).bind fun t201 => (if js15.toList = ([] : List UInt8) then (path_Parse.j1 kj5 a0 t194 js15 (t195.extract ((wrap64 (t199 + 1)) : Int).toNat t195.size) t201 ((t194.length : Int) == 0) false false t194 (⟨#[]⟩ : ByteArray) (⟨#[]⟩ : ByteArray)) else (path_Parse.j1 kj5 a0 t194 js15 (t195.extract ((wrap64 (t199 + 1)) : Int).toNat t195.size) t201 false false false t194 (⟨#[]⟩ : ByteArray) (⟨#[]⟩ : ByteArray)))) else (none)) else (none)) = some (r1, r2, r3, r4, r5, r6, r7) := by first | (rw [hjs15] at H; exact H) | (simp only [hjs15] at H ⊢; exact H)
     obtain ⟨ji16, hji16⟩ : ∃ j_ : Int, (wrap64 (t199 + 1)) = j_ := ⟨_, rfl⟩
     replace H : (if 0 ≤ (ji16) then (if (ji16) ≤ (t195.size : Int) then ((path_domains.f kj5 t194).bind fun t201 => (if js15.toList = ([] : List UInt8) then (path_Parse.j1 kj5 a0 t194 js15 (t195.extract ((ji16) : Int).toNat t195.size) t201 ((t194.length : Int) == 0) false false t194 (⟨#[]⟩ : ByteArray) (⟨#[]⟩ : ByteArray)) else (path_Parse.j1 kj5 a0 t194 js15 (t195.extract ((ji16) : Int).toNat t195.size) t201 false false false t194 (⟨#[]⟩ : ByteArray) (⟨#[]⟩ : ByteArray)))) else (none)) else (none)) = some (r1, r2, r3, r4, r5, r6, r7) := by first | (rw [hji16] at H; exact H) | (simp only [hji16] at H ⊢; exact H)
     have hji16w : (IntKind.i64.wrap (t199 + 1)) = ji16 := (i64_w _).trans hji16
     by_cases c17 : 0 ≤ (ji16)
     rotate_left
     ·rw [if_neg c17] at H
      exact ab H
     rw [if_pos c17] at H
     have c17b0 := eq_true c17
     have c17b1 : decide (0 ≤ (ji16)) = true := decide_eq_true c17
     clear c17
     by_cases c18 : (ji16) ≤ (t195.size : Int)
     rotate_left
     ·rw [if_neg c18] at H
      exact ab H
     rw [if_pos c18] at H
     have c18b0 := eq_true c18
     have c18b1 : decide ((ji16) ≤ (t195.size : Int)) = true := decide_eq_true c18
     clear c18
     obtain ⟨js19, hjs19⟩ : ∃ j_ : ByteArray, (t195.extract ((ji16) : Int).toNat t195.size) = j_ := ⟨_, rfl⟩
     replace H : ((path_domains.f kj5 t194).bind fun t201 => (if js15.toList = ([] : List UInt8) then (path_Parse.j1 kj5 a0 t194 js15 js19 t201 ((t194.length : Int) == 0) false false t194 (⟨#[]⟩ : ByteArray) (⟨#[]⟩ : ByteArray)) else (path_Parse.j1 kj5 a0 t194 js15 js19 t201 false false false t194 (⟨#[]⟩ : ByteArray) (⟨#[]⟩ : ByteArray)))) = some (r1, r2, r3, r4, r5, r6, r7) := by first | (rw [hjs19] at H; exact H) | (simp only [hjs19] at H ⊢; exact H)
     obtain ⟨t201, A200, H⟩ := Option.bind_eq_some_iff.mp H
     replace H : (if js15.toList = ([] : List UInt8) then (path_Parse.j1 kj5 a0 t194 js15 js19 t201 ((t194.length : Int) == 0) false false t194 (⟨#[]⟩ : ByteArray) (⟨#[]⟩ : ByteArray)) else (path_Parse.j1 kj5 a0 t194 js15 js19 t201 false false false t194 (⟨#[]⟩ : ByteArray) (⟨#[]⟩ : ByteArray))) = some (r1, r2, r3, r4, r5, r6, r7) := H
     have A20 := Aside0.mk A200
     clear A200
     have HC21 := Aside0.mk H
     clear H
     try go_wp2
     replace HO_7 := Aside0.mk (Kd.R_drew HO_7.out)
     replace BK191 := Aside0.mk (blk_drew BK191.out)
     replace HB := Aside0.mk (below_drew1 HB.out)
     obtain ⟨Ao23, co23, eo23⟩ := Kd.R_slice HO_7.out
     (first | subst eo23 | (injection eo23 with f1_ f2_ f3_; have f4_ := f1_.symm; have f5_ := f3_.symm; clear f1_ f2_ f3_; subst f4_; subst f5_))
     refine start_ (n := 13) (S := fun w' => True) (ds := []) #[false, false, false, false, false, false, false, false, false, false, false, false, false] kf rfl rfl trivial (fun hHeld => ?_); refine with_tabW path_Parse.tab8 path_Parse.bits8 (fun HT_ HW_ => ?_)
     generalize wc.drew = w22 at HO_7 BK191 HB hHeld ⊢
     refine pure_ (i := 0) (N := some 39) (v := ?_) (a' := ?_) #[true, false, false, false, false, false, false, false, false, false, false, false, false] rfl rfl (any_of HT_.out kf) (fun _ _ _ h => h) (Or.inl ⟨by rfl, ?_⟩) ?_ ?_
     rotate_left
     ·intro w'
      go_simp
      with_reducible rfl
     rotate_left
     ·simp only [Act.put, sA, sB, sC, i64_w, i32_w]
      rfl
     refine pure_ (i := 1) (N := some 40) (v := ?_) (a' := ?_) #[true, true, false, false, false, false, false, false, false, false, false, false, false] rfl rfl (any_of HT_.out kf) (fun _ _ _ h => h) (Or.inl ⟨by rfl, ?_⟩) ?_ ?_
     rotate_left
     ·intro w'
      go_simp
      with_reducible rfl
     rotate_left
     ·simp only [Act.put, sA, sB, sC, i64_w, i32_w]
      rfl
     refine pure_ (i := 2) (N := some 41) (v := ?_) (a' := ?_) #[true, true, true, false, false, false, false, false, false, false, false, false, false] rfl rfl (any_of HT_.out kf) (fun _ _ _ h => h) (Or.inl ⟨by rfl, ?_⟩) ?_ ?_
     rotate_left
     ·intro w'
      go_simp
      with_reducible rfl
     rotate_left
     ·simp only [Act.put, sA, sB, sC, i64_w, i32_w]
      rfl
     refine pure_ (i := 3) (N := some 42) (v := ?_) (a' := ?_) #[true, true, true, true, false, false, false, false, false, false, false, false, false] rfl rfl (any_of HT_.out kf) (fun _ _ _ h => h) (Or.inl ⟨by rfl, ?_⟩) ?_ ?_
     rotate_left
     ·intro w'
      go_simp
      with_reducible rfl
     rotate_left
     ·simp only [Act.put, sA, sB, sC, i64_w, i32_w]
      rfl
     refine pure_ (i := 4) (N := some 43) (v := ?_) (a' := ?_) #[true, true, true, true, true, false, false, false, false, false, false, false, false] rfl rfl (any_of HT_.out kf) (fun _ _ _ h => h) (Or.inl ⟨by rfl, ?_⟩) ?_ ?_
     rotate_left
     ·intro w'
      go_simp
      with_reducible rfl
     rotate_left
     ·simp only [Act.put, sA, sB, sC, i64_w, i32_w]
      rfl
     refine pure_ (i := 5) (N := some 44) (v := ?_) (a' := ?_) #[true, true, true, true, true, true, false, false, false, false, false, false, false] rfl rfl (any_of HT_.out kf) (fun _ _ _ h => h) (Or.inl ⟨by rfl, ?_⟩) ?_ ?_
     rotate_left
     ·intro w'
      go_simp
      with_reducible rfl
     rotate_left
     ·simp only [Act.put, sA, sB, sC, i64_w, i32_w]
      rfl
     refine pure_ (i := 6) (N := some 45) (v := ?_) (a' := ?_) #[true, true, true, true, true, true, true, false, false, false, false, false, false] rfl rfl (any_of HT_.out kf) (fun _ _ _ h => h) (Or.inl ⟨by rfl, ?_⟩) ?_ ?_
     rotate_left
     ·intro w'
      go_simp
      with_reducible rfl
     rotate_left
     ·simp only [Act.put, sA, sB, sC, i64_w, i32_w]
      rfl
     refine pure_ (i := 7) (N := some 46) (v := ?_) (a' := ?_) #[true, true, true, true, true, true, true, true, false, false, false, false, false] rfl rfl (any_of HT_.out kf) (fun _ _ _ h => h) (Or.inl ⟨by rfl, ?_⟩) ?_ ?_
     rotate_left
     ·intro w'
      go_simp
      with_reducible rfl
     rotate_left
     ·simp only [Act.put, sA, sB, sC, i64_w, i32_w]
      rfl
     refine pure_ (i := 8) (N := some 47) (v := ?_) (a' := ?_) #[true, true, true, true, true, true, true, true, true, false, false, false, false] rfl rfl (any_of HT_.out kf) (fun _ _ _ h => h) (Or.inl ⟨by rfl, ?_⟩) ?_ ?_
     rotate_left
     ·intro w'
      go_simp
      with_reducible rfl
     rotate_left
     ·simp only [Act.put, sA, sB, sC, i64_w, i32_w]
      rfl
     refine one_ (i := 9) (N := some 10) #[true, true, true, true, true, true, true, true, true, true, false, false, false] rfl rfl (one_of HT_.out kf) (by decide) (fun K hK => ?_)
     refine box_step ?hg (N := 10) ?hd (cs := #[.bool false, .bool false, .slice none 0 0, .string (⟨#[]⟩ : ByteArray), .string (⟨#[]⟩ : ByteArray)]) (t := 26) ?hr ?_; (case hd => rfl); (case hg => rfl); (case hr => first | (go_simp; done) | (go_simp; rfl))
     intro gb200 hg w24 hbox hb
     replace HO_7 := Aside0.mk (Kd.R_below (kr HO_7.out) hb)
     have BK200 := Aside0.mk (hbox)
     have GW200 := Aside0.mk (gz hg : w.heap.size ≤ gb200)
     have GE200 := Aside0.mk (gz hg : w.heap.size ≤ gb200)
     replace HB := Aside0.mk (below_step bl hb)
     have NB191_200 := Aside0.mk (nl hg BK191.out : gb191 ≠ gb200)
     have NB200_191 := Aside0.mk (ng hg BK191.out : gb200 ≠ gb191)
     replace BK191 := Aside0.mk (kb BK191.out hb)
     clear hb hbox hg
     refine hK.out _ _ trivial (fun hHeld => ?_)
     clear hK K
     refine norm_ (a' := ?_) ?_ ?_
     rotate_left
     ·show Act.put _ (some 10) _ = _
      simp only [Act.put, sA, sB, sC, i64_w, i32_w]
      rfl
     refine one_ (i := 10) (N := none) #[true, true, true, true, true, true, true, true, true, true, true, false, false] rfl rfl (one_of HT_.out kf) (by decide) (fun K hK => ?_)
     have hs25 : w24.cell? ⟨gb200, 0, none⟩ = some (.bool false) := (blk_cell BK200.out 0).trans rfl
     have hfs25 := blk_frozen BK200.out 0
     have hns25_0 := NB191_200.out
     have hms25_0 := NB200_191.out
     have hs26 : w24.cell? ⟨gb200, 1, none⟩ = some (.bool false) := (blk_cell BK200.out 1).trans rfl
     have hfs26 := blk_frozen BK200.out 1
     have hns26_0 := NB191_200.out
     have hms26_0 := NB200_191.out
     have hs27 : w24.cell? ⟨gb200, 2, none⟩ = some (.slice none 0 0) := (blk_cell BK200.out 2).trans rfl
     have hfs27 := blk_frozen BK200.out 2
     have hns27_0 := NB191_200.out
     have hms27_0 := NB200_191.out
     have hs28 : w24.cell? ⟨gb200, 3, none⟩ = some (.string (⟨#[]⟩ : ByteArray)) := (blk_cell BK200.out 3).trans rfl
     have hfs28 := blk_frozen BK200.out 3
     have hns28_0 := NB191_200.out
     have hms28_0 := NB200_191.out
     have hs29 : w24.cell? ⟨gb200, 4, none⟩ = some (.string (⟨#[]⟩ : ByteArray)) := (blk_cell BK200.out 4).trans rfl
     have hfs29 := blk_frozen BK200.out 4
     have hns29_0 := NB191_200.out
     have hms29_0 := NB200_191.out
     refine skip_ (w1 := ?_) (by rfl) rfl ?_ ?_
     rotate_left
     ·go_simp
      rfl
     refine hK.out _ _ trivial (fun hHeld => ?_)
     clear hK K
     refine pure_ (i := 11) (N := some 11) (v := ?_) (a' := ?_) #[true, true, true, true, true, true, true, true, true, true, true, true, false] rfl rfl (any_of HT_.out kf) (fun _ _ _ h => h) (Or.inl ⟨by rfl, ?_⟩) ?_ ?_
     rotate_left
     ·intro w'
      go_simp
      with_reducible rfl
     rotate_left
     ·simp only [Act.put, sA, sB, sC, i64_w, i32_w]
      rfl
     refine pure_ (i := 12) (N := some 12) (v := ?_) (a' := ?_) #[true, true, true, true, true, true, true, true, true, true, true, true, true] rfl rfl (any_of HT_.out kf) (fun _ _ _ h => h) (Or.inl ⟨by rfl, ?_⟩) ?_ ?_
     rotate_left
     ·intro w'
      go_simp
      with_reducible rfl
     rotate_left
     ·simp only [Act.put, sA, sB, sC, i64_w, i32_w]
      rfl
     refine done_ (done_of HT_.out kf) ?_
     go_upto_region 14 with (first | ((with_reducible refine gate_callee (f := 33) rfl ?_); refine goesL_ (some 49) rfl rfl Tryz.func33 kf rfl #[.slice Ao23 t194.length co23] rfl ml ?_; (with_reducible refine (path_domains.calls kj5 _ _ t194 t201 _ ?side1 ?side2 ?side3 A20.out).mono ?_); (case side1 => refine (Kd.R_reads' (e := 9) (base := w.heap.size) (ok := fun k_ => True) (n := t194.length) (c := co23) ?_).2.2; exact (by (with_reducible repeat (first | apply Kd.R_alloc | apply Kd.R_drewN | apply Kd.R_drew)); exact (Kd.R_mono (Kd.R_far (p := ⟨gb200, 4, none⟩) (Kd.R_far (p := ⟨gb200, 3, none⟩) (Kd.R_far (p := ⟨gb200, 2, none⟩) (Kd.R_far (p := ⟨gb200, 1, none⟩) (Kd.R_far (p := ⟨gb200, 0, none⟩) (Kd.R_types HO_7.out BK200.out (by decide)) (fun _ hk => hk.2) (.bool false)) (fun _ hk => hk.2) (.bool false)) (fun _ hk => hk.2) (.slice Ao23 t194.length co23)) (fun _ hk => hk.2) (.string (⟨#[]⟩ : ByteArray))) (fun _ hk => hk.2) (.string (⟨#[]⟩ : ByteArray))) (fun _ h_ => h_.1)))); (case side2 => exact (Kd.R_reads' HO_7.out).2.1); (case side3 => exact Glob.below HG.out bl); rintro e w30 ⟨rfl, hb⟩; refine ⟨_, rfl, ?_⟩; replace HO_7 := Aside0.mk (Kd.R_below (by (with_reducible repeat (first | apply Kd.R_alloc | apply Kd.R_drewN | apply Kd.R_drew)); exact (Kd.R_mono (Kd.R_far (p := ⟨gb200, 4, none⟩) (Kd.R_far (p := ⟨gb200, 3, none⟩) (Kd.R_far (p := ⟨gb200, 2, none⟩) (Kd.R_far (p := ⟨gb200, 1, none⟩) (Kd.R_far (p := ⟨gb200, 0, none⟩) (Kd.R_types HO_7.out BK200.out (by decide)) (fun _ hk => hk.2) (.bool false)) (fun _ hk => hk.2) (.bool false)) (fun _ hk => hk.2) (.slice Ao23 t194.length co23)) (fun _ hk => hk.2) (.string (⟨#[]⟩ : ByteArray))) (fun _ hk => hk.2) (.string (⟨#[]⟩ : ByteArray))) (fun _ h_ => h_.1))) hb); replace BK191 := Aside0.mk (kb BK191.out hb); replace BK200 := Aside0.mk (blk_below (g := gb200) (o := .cells #[.bool false, .bool false, .slice Ao23 t194.length co23, .string (⟨#[]⟩ : ByteArray), .string (⟨#[]⟩ : ByteArray)] 26 (0, 0)) (by (with_reducible repeat (first | refine blk_drewN ?_ _ | refine blk_drew ?_ | refine blk_alloc ?_ _)); refine blk_put (cs := #[.bool false, .bool false, .slice Ao23 t194.length co23, .string (⟨#[]⟩ : ByteArray), .string (⟨#[]⟩ : ByteArray)]) ?_ 4 _ rfl; (with_reducible repeat (first | refine blk_drewN ?_ _ | refine blk_drew ?_ | refine blk_alloc ?_ _)); refine blk_put (cs := #[.bool false, .bool false, .slice Ao23 t194.length co23, .string (⟨#[]⟩ : ByteArray), .string (⟨#[]⟩ : ByteArray)]) ?_ 3 _ rfl; (with_reducible repeat (first | refine blk_drewN ?_ _ | refine blk_drew ?_ | refine blk_alloc ?_ _)); refine blk_put (cs := #[.bool false, .bool false, .slice none 0 0, .string (⟨#[]⟩ : ByteArray), .string (⟨#[]⟩ : ByteArray)]) ?_ 2 _ rfl; (with_reducible repeat (first | refine blk_drewN ?_ _ | refine blk_drew ?_ | refine blk_alloc ?_ _)); refine blk_put (cs := #[.bool false, .bool false, .slice none 0 0, .string (⟨#[]⟩ : ByteArray), .string (⟨#[]⟩ : ByteArray)]) ?_ 1 _ rfl; (with_reducible repeat (first | refine blk_drewN ?_ _ | refine blk_drew ?_ | refine blk_alloc ?_ _)); refine blk_put (cs := #[.bool false, .bool false, .slice none 0 0, .string (⟨#[]⟩ : ByteArray), .string (⟨#[]⟩ : ByteArray)]) ?_ 0 _ rfl; (with_reducible repeat (first | refine blk_drewN ?_ _ | refine blk_drew ?_ | refine blk_alloc ?_ _)); exact BK200.out) hb); replace HB := Aside0.mk (below_step bl hb); (try clear hb); (try clear hb2); (try clear hk); (try clear hi)))
     (try simp only [Act.put, sA, sB, sC])
     go_cut [67] (fun v67 wc => ∃ (kq : Nat) (x67_20 : Bool), v67 = .bool x67_20 ∧ Aside0 (path_Parse.j1 kq a0 t194 js15 js19 t201 x67_20 false false t194 (⟨#[]⟩ : ByteArray) (⟨#[]⟩ : ByteArray) = some (r1, r2, r3, r4, r5, r6, r7)) ∧ Aside0 (kq ≤ kj5) ∧ Aside0 (Kd.R Kd.string 9 wc w.heap.size (fun _ => True) (.slice Ao23 t194.length co23) t194) ∧ Aside0 (Kd.R Kd.string 9 wc w.heap.size (fun _ => True) (.slice Ao23 t194.length co23) t194) ∧ Aside0 (wc.heap[gb191]? = some (.cells #[.bool false, .bool false, (.slice none 0 0), .string (⟨#[]⟩ : ByteArray), .string (⟨#[]⟩ : ByteArray)] 26 (0, 0))) ∧ Aside0 (wc.heap[gb200]? = some (.cells #[.bool false, .bool false, (.slice Ao23 t194.length co23), .string (⟨#[]⟩ : ByteArray), .string (⟨#[]⟩ : ByteArray)] 26 (0, 0))) ∧ Aside0 (Below w.heap.size w wc))
     case first =>
      have H := HC21.out
      clear HC21
      by_cases c31 : js15.toList = ([] : List UInt8)
      ·rw [if_pos c31] at H
       have c31b0 : (js15.toList == ([] : List UInt8)) = true := beq_iff_eq.mpr c31
       have c31b1 : (js15.toList != ([] : List UInt8)) = false := bne_eq_false_iff_eq.mpr c31
       clear c31
       (first | rw [c31b0] | (simp only [i64_w, i32_w]; rw [c31b0]) | skip)
       have H' := Aside0.mk H
       clear H
       go_wp2
       go_meet
       case rel => exact ⟨_, (((t194.length : Int) == 0)), rs, H', ⟨by have := HJ5.out; first | omega | exact Nat.le_refl _⟩, ⟨kr HO_7.out⟩, ⟨kr HO_7.out⟩, ⟨bk BK191.out⟩, ⟨bk BK200.out⟩, ⟨bl⟩⟩
      ·rw [if_neg c31] at H
       have c31b0 : (js15.toList == ([] : List UInt8)) = false := beq_eq_false_iff_ne.mpr c31
       have c31b1 : (js15.toList != ([] : List UInt8)) = true := bne_iff_ne.mpr c31
       (first | rw [c31b0] | (simp only [i64_w, i32_w]; rw [c31b0]) | skip)
       have H' := Aside0.mk H
       clear H
       go_wp2
       go_meet
       case rel => exact ⟨_, (false), rs, H', ⟨by have := HJ5.out; first | omega | exact Nat.le_refl _⟩, ⟨kr HO_7.out⟩, ⟨kr HO_7.out⟩, ⟨bk BK191.out⟩, ⟨bk BK200.out⟩, ⟨bl⟩⟩
     case rest =>
      clear HC21
      try clear c1
      try clear p2
      try clear c3
      try clear p6
      try clear c10
      try clear c11
      try clear c13
      try clear c13b0
      try clear c13b1
      try clear c14
      try clear c14b0
      try clear c14b1
      try clear c17
      try clear c17b0
      try clear c17b1
      try clear c18
      try clear c18b0
      try clear c18b1
      try clear c30
      try clear c31
      try clear c31b0
      try clear c31b1
      try clear hcz12_0
      try clear hcz12_1
      try clear hcz12_2
      try clear hcz12_3
      try clear hcz12_4
      try clear hfz12_0
      try clear hfz12_1
      try clear hfz12_2
      try clear hfz12_3
      try clear hfz12_4
      try clear p2
      obtain ⟨kq, x67_20, rfl, HA, HJ20, HO_7, HO_201002, BK191, BK200, HB⟩ := hcut
      cases kq with
      | zero => exact absurd HA.out (by simp [path_Parse.j1])
      | succ kj20 =>
       have H := HA.out
       clear HA
       simp only [path_Parse.j1] at H
       by_cases c32 : x67_20 = true
       ·subst c32
        replace H : (if t201 = 0 then (if (wrap64 ((a0.size : Int) - (js19.size : Int))) > 256 then (some (false, false, ([] : List ByteArray), (⟨#[]⟩ : ByteArray), (⟨#[]⟩ : ByteArray), (⟨#[]⟩ : ByteArray), 3)) else (some (true, false, t194, (⟨#[]⟩ : ByteArray), (⟨#[]⟩ : ByteArray), js19, 0))) else (some (false, false, ([] : List ByteArray), (⟨#[]⟩ : ByteArray), (⟨#[]⟩ : ByteArray), (⟨#[]⟩ : ByteArray), 3))) = some (r1, r2, r3, r4, r5, r6, r7) := by rw [if_pos rfl] at H; exact H
        by_cases c33 : t201 = 0
        ·rw [if_pos c33] at H
         have c33b0 : (t201 == 0) = true := beq_iff_eq.mpr c33
         have c33b1 : (t201 != 0) = false := bne_eq_false_iff_eq.mpr c33
         clear c33
         by_cases c34 : (wrap64 ((a0.size : Int) - (js19.size : Int))) > 256
         ·rw [if_pos c34] at H
          have c34b0 : decide (256 < (wrap64 ((a0.size : Int) - (js19.size : Int)))) = true := decide_eq_true c34
          clear c34
          simp only [Option.some.injEq, Prod.mk.injEq] at H
          obtain ⟨rfl, rfl, rfl, rfl, rfl, rfl, rfl⟩ := H
          have hnb35 := NB200_191.out
          have hnc35 := NB191_200.out
          have hcz36_0 := cz BK200.out 0 (.bool false)
          have hcz36_1 := cz BK200.out 1 (.bool false)
          have hcz36_2 := cz BK200.out 2 (.slice Ao23 t194.length co23)
          have hcz36_3 := cz BK200.out 3 (.string (⟨#[]⟩ : ByteArray))
          have hcz36_4 := cz BK200.out 4 (.string (⟨#[]⟩ : ByteArray))
          have hfz36_0 := blk_frozen BK200.out 0
          have hfz36_1 := blk_frozen BK200.out 1
          have hfz36_2 := blk_frozen BK200.out 2
          have hfz36_3 := blk_frozen BK200.out 3
          have hfz36_4 := blk_frozen BK200.out 4
          have hcz37_0 := cz BK191.out 0 (.bool false)
          have hcz37_1 := cz BK191.out 1 (.bool false)
          have hcz37_2 := cz BK191.out 2 (.slice none 0 0)
          have hcz37_3 := cz BK191.out 3 (.string (⟨#[]⟩ : ByteArray))
          have hcz37_4 := cz BK191.out 4 (.string (⟨#[]⟩ : ByteArray))
          have hfz37_0 := blk_frozen BK191.out 0
          have hfz37_1 := blk_frozen BK191.out 1
          have hfz37_2 := blk_frozen BK191.out 2
          have hfz37_3 := blk_frozen BK191.out 3
          have hfz37_4 := blk_frozen BK191.out 4
          go_wp2
          refine bodyPost_ret (results_ctt rfl _ _ gb191 26 #[.bool false, .bool false, .slice none 0 0, .string (⟨#[]⟩ : ByteArray), .string (⟨#[]⟩ : ByteArray)] (0, 0) _ rfl (by (with_reducible repeat (first | refine blk_drewN ?_ _ | refine blk_drew ?_ | refine blk_alloc ?_ _)); refine blk_put (cs := #[.bool false, .bool false, .slice none 0 0, .string (⟨#[]⟩ : ByteArray), .string (⟨#[]⟩ : ByteArray)]) ?_ 4 _ rfl; (with_reducible repeat (first | refine blk_drewN ?_ _ | refine blk_drew ?_ | refine blk_alloc ?_ _)); refine blk_put (cs := #[.bool false, .bool false, .slice none 0 0, .string (⟨#[]⟩ : ByteArray), .string (⟨#[]⟩ : ByteArray)]) ?_ 3 _ rfl; (with_reducible repeat (first | refine blk_drewN ?_ _ | refine blk_drew ?_ | refine blk_alloc ?_ _)); refine blk_put (cs := #[.bool false, .bool false, .slice none 0 0, .string (⟨#[]⟩ : ByteArray), .string (⟨#[]⟩ : ByteArray)]) ?_ 2 _ rfl; (with_reducible repeat (first | refine blk_drewN ?_ _ | refine blk_drew ?_ | refine blk_alloc ?_ _)); refine blk_put (cs := #[.bool false, .bool false, .slice none 0 0, .string (⟨#[]⟩ : ByteArray), .string (⟨#[]⟩ : ByteArray)]) ?_ 1 _ rfl; (with_reducible repeat (first | refine blk_drewN ?_ _ | refine blk_drew ?_ | refine blk_alloc ?_ _)); refine blk_put (cs := #[.bool false, .bool false, .slice none 0 0, .string (⟨#[]⟩ : ByteArray), .string (⟨#[]⟩ : ByteArray)]) ?_ 0 _ rfl; (with_reducible repeat (first | refine blk_drewN ?_ _ | refine blk_drew ?_ | refine blk_alloc ?_ _)); refine blk_far ?_ NB191_200.out _; (with_reducible repeat (first | refine blk_drewN ?_ _ | refine blk_drew ?_ | refine blk_alloc ?_ _)); exact BK191.out) Tryz.underlying26 rfl kf) rfl ?_
          exact ⟨_, by first | rfl | (simp [errW_none, errW_some] <;> rfl) | (simp only [← hji16]; first | rfl | (simp [errW_none, errW_some] <;> rfl)) | (simp [*, errW_none, errW_some] <;> rfl), by first | exact Kd.R_nil _ _ _ _ _ | exact Kd.N_nil _ _ _ _ _ | exact Kd.V_nil _ _ _ _ _ | exact Kd.Q_nil _ _ _ _ _ | exact Kd.S_nil _ _ _ _ _, bl⟩
         ·rw [if_neg c34] at H
          have c34b0 : decide (256 < (wrap64 ((a0.size : Int) - (js19.size : Int)))) = false := decide_eq_false c34
          clear c34
          simp only [Option.some.injEq, Prod.mk.injEq] at H
          obtain ⟨rfl, rfl, rfl, rfl, rfl, rfl, rfl⟩ := H
          have hnb38 := NB200_191.out
          have hnc38 := NB191_200.out
          have hcz39_0 := cz BK200.out 0 (.bool false)
          have hcz39_1 := cz BK200.out 1 (.bool false)
          have hcz39_2 := cz BK200.out 2 (.slice Ao23 t194.length co23)
          have hcz39_3 := cz BK200.out 3 (.string (⟨#[]⟩ : ByteArray))
          have hcz39_4 := cz BK200.out 4 (.string (⟨#[]⟩ : ByteArray))
          have hfz39_0 := blk_frozen BK200.out 0
          have hfz39_1 := blk_frozen BK200.out 1
          have hfz39_2 := blk_frozen BK200.out 2
          have hfz39_3 := blk_frozen BK200.out 3
          have hfz39_4 := blk_frozen BK200.out 4
          have hcz40_0 := cz BK191.out 0 (.bool false)
          have hcz40_1 := cz BK191.out 1 (.bool false)
          have hcz40_2 := cz BK191.out 2 (.slice none 0 0)
          have hcz40_3 := cz BK191.out 3 (.string (⟨#[]⟩ : ByteArray))
          have hcz40_4 := cz BK191.out 4 (.string (⟨#[]⟩ : ByteArray))
          have hfz40_0 := blk_frozen BK191.out 0
          have hfz40_1 := blk_frozen BK191.out 1
          have hfz40_2 := blk_frozen BK191.out 2
          have hfz40_3 := blk_frozen BK191.out 3
          have hfz40_4 := blk_frozen BK191.out 4
          go_wp2
          refine bodyPost_ret (results_ctt rfl _ _ gb191 26 #[.bool true, .bool false, .slice Ao23 t194.length co23, .string (⟨#[]⟩ : ByteArray), .string (⟨#[]⟩ : ByteArray)] (0, 0) _ rfl (by (with_reducible repeat (first | refine blk_drewN ?_ _ | refine blk_drew ?_ | refine blk_alloc ?_ _)); refine blk_put (cs := #[.bool true, .bool false, .slice Ao23 t194.length co23, .string (⟨#[]⟩ : ByteArray), .string (⟨#[]⟩ : ByteArray)]) ?_ 4 _ rfl; (with_reducible repeat (first | refine blk_drewN ?_ _ | refine blk_drew ?_ | refine blk_alloc ?_ _)); refine blk_put (cs := #[.bool true, .bool false, .slice Ao23 t194.length co23, .string (⟨#[]⟩ : ByteArray), .string (⟨#[]⟩ : ByteArray)]) ?_ 3 _ rfl; (with_reducible repeat (first | refine blk_drewN ?_ _ | refine blk_drew ?_ | refine blk_alloc ?_ _)); refine blk_put (cs := #[.bool true, .bool false, .slice none 0 0, .string (⟨#[]⟩ : ByteArray), .string (⟨#[]⟩ : ByteArray)]) ?_ 2 _ rfl; (with_reducible repeat (first | refine blk_drewN ?_ _ | refine blk_drew ?_ | refine blk_alloc ?_ _)); refine blk_put (cs := #[.bool true, .bool false, .slice none 0 0, .string (⟨#[]⟩ : ByteArray), .string (⟨#[]⟩ : ByteArray)]) ?_ 1 _ rfl; (with_reducible repeat (first | refine blk_drewN ?_ _ | refine blk_drew ?_ | refine blk_alloc ?_ _)); refine blk_put (cs := #[.bool false, .bool false, .slice none 0 0, .string (⟨#[]⟩ : ByteArray), .string (⟨#[]⟩ : ByteArray)]) ?_ 0 _ rfl; (with_reducible repeat (first | refine blk_drewN ?_ _ | refine blk_drew ?_ | refine blk_alloc ?_ _)); refine blk_far ?_ NB191_200.out _; (with_reducible repeat (first | refine blk_drewN ?_ _ | refine blk_drew ?_ | refine blk_alloc ?_ _)); exact BK191.out) Tryz.underlying26 rfl kf) rfl ?_
          exact ⟨_, by first | rfl | (simp [errW_none, errW_some] <;> rfl) | (simp only [← hji16]; first | rfl | (simp [errW_none, errW_some] <;> rfl)) | (simp [*, errW_none, errW_some] <;> rfl), by (with_reducible repeat (first | apply Kd.R_alloc | apply Kd.R_drewN | apply Kd.R_drew)); exact Kd.R_mono (Kd.R_far (p := ⟨gb191, 4, none⟩) (Kd.R_far (p := ⟨gb191, 3, none⟩) (Kd.R_far (p := ⟨gb191, 2, none⟩) (Kd.R_far (p := ⟨gb191, 1, none⟩) (Kd.R_far (p := ⟨gb191, 0, none⟩) (Kd.R_far (p := ⟨gb200, 0, none⟩) (Kd.R_types (Kd.R_types HO_201002.out BK200.out (by decide)) BK191.out (by decide)) (fun _ hk => hk.1.2) (.bool true)) (fun _ hk => hk.2) (.bool true)) (fun _ hk => hk.2) (.bool false)) (fun _ hk => hk.2) (.slice Ao23 t194.length co23)) (fun _ hk => hk.2) (.string (⟨#[]⟩ : ByteArray))) (fun _ hk => hk.2) (.string (⟨#[]⟩ : ByteArray))) (fun _ hk => trivial), bl⟩
        ·rw [if_neg c33] at H
         have c33b0 : (t201 == 0) = false := beq_eq_false_iff_ne.mpr c33
         have c33b1 : (t201 != 0) = true := bne_iff_ne.mpr c33
         simp only [Option.some.injEq, Prod.mk.injEq] at H
         obtain ⟨rfl, rfl, rfl, rfl, rfl, rfl, rfl⟩ := H
         have hnb41 := NB200_191.out
         have hnc41 := NB191_200.out
         have hcz42_0 := cz BK200.out 0 (.bool false)
         have hcz42_1 := cz BK200.out 1 (.bool false)
         have hcz42_2 := cz BK200.out 2 (.slice Ao23 t194.length co23)
         have hcz42_3 := cz BK200.out 3 (.string (⟨#[]⟩ : ByteArray))
         have hcz42_4 := cz BK200.out 4 (.string (⟨#[]⟩ : ByteArray))
         have hfz42_0 := blk_frozen BK200.out 0
         have hfz42_1 := blk_frozen BK200.out 1
         have hfz42_2 := blk_frozen BK200.out 2
         have hfz42_3 := blk_frozen BK200.out 3
         have hfz42_4 := blk_frozen BK200.out 4
         have hcz43_0 := cz BK191.out 0 (.bool false)
         have hcz43_1 := cz BK191.out 1 (.bool false)
         have hcz43_2 := cz BK191.out 2 (.slice none 0 0)
         have hcz43_3 := cz BK191.out 3 (.string (⟨#[]⟩ : ByteArray))
         have hcz43_4 := cz BK191.out 4 (.string (⟨#[]⟩ : ByteArray))
         have hfz43_0 := blk_frozen BK191.out 0
         have hfz43_1 := blk_frozen BK191.out 1
         have hfz43_2 := blk_frozen BK191.out 2
         have hfz43_3 := blk_frozen BK191.out 3
         have hfz43_4 := blk_frozen BK191.out 4
         go_wp2
         refine bodyPost_ret (results_ctt rfl _ _ gb191 26 #[.bool false, .bool false, .slice none 0 0, .string (⟨#[]⟩ : ByteArray), .string (⟨#[]⟩ : ByteArray)] (0, 0) _ rfl (by (with_reducible repeat (first | refine blk_drewN ?_ _ | refine blk_drew ?_ | refine blk_alloc ?_ _)); refine blk_put (cs := #[.bool false, .bool false, .slice none 0 0, .string (⟨#[]⟩ : ByteArray), .string (⟨#[]⟩ : ByteArray)]) ?_ 4 _ rfl; (with_reducible repeat (first | refine blk_drewN ?_ _ | refine blk_drew ?_ | refine blk_alloc ?_ _)); refine blk_put (cs := #[.bool false, .bool false, .slice none 0 0, .string (⟨#[]⟩ : ByteArray), .string (⟨#[]⟩ : ByteArray)]) ?_ 3 _ rfl; (with_reducible repeat (first | refine blk_drewN ?_ _ | refine blk_drew ?_ | refine blk_alloc ?_ _)); refine blk_put (cs := #[.bool false, .bool false, .slice none 0 0, .string (⟨#[]⟩ : ByteArray), .string (⟨#[]⟩ : ByteArray)]) ?_ 2 _ rfl; (with_reducible repeat (first | refine blk_drewN ?_ _ | refine blk_drew ?_ | refine blk_alloc ?_ _)); refine blk_put (cs := #[.bool false, .bool false, .slice none 0 0, .string (⟨#[]⟩ : ByteArray), .string (⟨#[]⟩ : ByteArray)]) ?_ 1 _ rfl; (with_reducible repeat (first | refine blk_drewN ?_ _ | refine blk_drew ?_ | refine blk_alloc ?_ _)); refine blk_put (cs := #[.bool false, .bool false, .slice none 0 0, .string (⟨#[]⟩ : ByteArray), .string (⟨#[]⟩ : ByteArray)]) ?_ 0 _ rfl; (with_reducible repeat (first | refine blk_drewN ?_ _ | refine blk_drew ?_ | refine blk_alloc ?_ _)); refine blk_far ?_ NB191_200.out _; (with_reducible repeat (first | refine blk_drewN ?_ _ | refine blk_drew ?_ | refine blk_alloc ?_ _)); exact BK191.out) Tryz.underlying26 rfl kf) rfl ?_
         exact ⟨_, by first | rfl | (simp [errW_none, errW_some] <;> rfl) | (simp only [← hji16]; first | rfl | (simp [errW_none, errW_some] <;> rfl)) | (simp [*, errW_none, errW_some] <;> rfl), by first | exact Kd.R_nil _ _ _ _ _ | exact Kd.N_nil _ _ _ _ _ | exact Kd.V_nil _ _ _ _ _ | exact Kd.Q_nil _ _ _ _ _ | exact Kd.S_nil _ _ _ _ _, bl⟩
       ·replace c32 := Bool.eq_false_iff.mpr c32
        subst c32
        replace H : ((text_Same.f js15 (⟨#[112, 111, 115, 116, 109, 97, 115, 116, 101, 114]⟩ : ByteArray)).bind fun t202 => (if t202 = true then (path_Parse.j2 kj20 a0 js15 js19 t201 ((t194.length : Int) == 0) false false t194 (⟨#[]⟩ : ByteArray) (⟨#[]⟩ : ByteArray)) else (path_Parse.j2 kj20 a0 js15 js19 t201 false false false t194 (⟨#[]⟩ : ByteArray) (⟨#[]⟩ : ByteArray)))) = some (r1, r2, r3, r4, r5, r6, r7) := by rw [if_neg (show ¬ (false = true) by decide)] at H; exact H
        have HC44 := Aside0.mk H
        clear H
        go_upto_region 16 with (fail)
        go_cut [76] (fun v76 wc => ∃ (kq : Nat) (x76_43 : Bool), v76 = .bool x76_43 ∧ Aside0 (path_Parse.j2 kq a0 js15 js19 t201 x76_43 false false t194 (⟨#[]⟩ : ByteArray) (⟨#[]⟩ : ByteArray) = some (r1, r2, r3, r4, r5, r6, r7)) ∧ Aside0 (kq ≤ kj20) ∧ Aside0 (Kd.R Kd.string 9 wc w.heap.size (fun _ => True) (.slice Ao23 t194.length co23) t194) ∧ Aside0 (wc.heap[gb191]? = some (.cells #[.bool false, .bool false, (.slice none 0 0), .string (⟨#[]⟩ : ByteArray), .string (⟨#[]⟩ : ByteArray)] 26 (0, 0))) ∧ Aside0 (wc.heap[gb200]? = some (.cells #[.bool false, .bool false, (.slice Ao23 t194.length co23), .string (⟨#[]⟩ : ByteArray), .string (⟨#[]⟩ : ByteArray)] 26 (0, 0))) ∧ Aside0 (Below w.heap.size w wc))
        case first =>
         have H := HC44.out
         clear HC44
         obtain ⟨t202, A450, H⟩ := Option.bind_eq_some_iff.mp H
         replace H : (if t202 = true then (path_Parse.j2 kj20 a0 js15 js19 t201 ((t194.length : Int) == 0) false false t194 (⟨#[]⟩ : ByteArray) (⟨#[]⟩ : ByteArray)) else (path_Parse.j2 kj20 a0 js15 js19 t201 false false false t194 (⟨#[]⟩ : ByteArray) (⟨#[]⟩ : ByteArray))) = some (r1, r2, r3, r4, r5, r6, r7) := H
         have A45 := Aside0.mk A450
         clear A450
         by_cases c46 : t202 = true
         ·subst c46
          replace H : (path_Parse.j2 kj20 a0 js15 js19 t201 ((t194.length : Int) == 0) false false t194 (⟨#[]⟩ : ByteArray) (⟨#[]⟩ : ByteArray)) = some (r1, r2, r3, r4, r5, r6, r7) := by rw [if_pos rfl] at H; exact H
          have H' := Aside0.mk H
          clear H
          go_wp2_with (first | ((with_reducible refine gate_callee (f := 34) rfl ?_); refine goesL_ (some 78) rfl rfl Tryz.func34 kf rfl #[.string js15, .string (⟨#[112, 111, 115, 116, 109, 97, 115, 116, 101, 114]⟩ : ByteArray)] rfl ml ?_; (with_reducible refine (text_Same.calls js15 (⟨#[112, 111, 115, 116, 109, 97, 115, 116, 101, 114]⟩ : ByteArray) true _ A45.out).mono ?_); rintro e w47 ⟨rfl, hb⟩; refine ⟨_, rfl, ?_⟩; replace HO_7 := Aside0.mk (Kd.R_below (kr HO_7.out) hb); replace HO_201002 := Aside0.mk (Kd.R_below (kr HO_201002.out) hb); replace BK191 := Aside0.mk (kb BK191.out hb); replace BK200 := Aside0.mk (kb BK200.out hb); replace HB := Aside0.mk (below_step bl hb); (try clear hb); (try clear hb2); (try clear hk); (try clear hi)))
          go_meet
          case rel => exact ⟨_, (((t194.length : Int) == 0)), rs, H', ⟨by have := HJ5.out; have := HJ20.out; first | omega | exact Nat.le_refl _⟩, ⟨kr HO_201002.out⟩, ⟨bk BK191.out⟩, ⟨bk BK200.out⟩, ⟨bl⟩⟩
         ·replace c46 := Bool.eq_false_iff.mpr c46
          subst c46
          replace H : (path_Parse.j2 kj20 a0 js15 js19 t201 false false false t194 (⟨#[]⟩ : ByteArray) (⟨#[]⟩ : ByteArray)) = some (r1, r2, r3, r4, r5, r6, r7) := by rw [if_neg (show ¬ (false = true) by decide)] at H; exact H
          have H' := Aside0.mk H
          clear H
          go_wp2_with (first | ((with_reducible refine gate_callee (f := 34) rfl ?_); refine goesL_ (some 78) rfl rfl Tryz.func34 kf rfl #[.string js15, .string (⟨#[112, 111, 115, 116, 109, 97, 115, 116, 101, 114]⟩ : ByteArray)] rfl ml ?_; (with_reducible refine (text_Same.calls js15 (⟨#[112, 111, 115, 116, 109, 97, 115, 116, 101, 114]⟩ : ByteArray) false _ A45.out).mono ?_); rintro e w48 ⟨rfl, hb⟩; refine ⟨_, rfl, ?_⟩; replace HO_7 := Aside0.mk (Kd.R_below (kr HO_7.out) hb); replace HO_201002 := Aside0.mk (Kd.R_below (kr HO_201002.out) hb); replace BK191 := Aside0.mk (kb BK191.out hb); replace BK200 := Aside0.mk (kb BK200.out hb); replace HB := Aside0.mk (below_step bl hb); (try clear hb); (try clear hb2); (try clear hk); (try clear hi)))
          go_meet
          case rel => exact ⟨_, (false), rs, H', ⟨by have := HJ5.out; have := HJ20.out; first | omega | exact Nat.le_refl _⟩, ⟨kr HO_201002.out⟩, ⟨bk BK191.out⟩, ⟨bk BK200.out⟩, ⟨bl⟩⟩
        case rest =>
         clear HC44
         try clear c1
         try clear p2
         try clear c3
         try clear c4
         try clear p6
         try clear c10
         try clear c11
         try clear c13
         try clear c13b0
         try clear c13b1
         try clear c14
         try clear c14b0
         try clear c14b1
         try clear c17
         try clear c17b0
         try clear c17b1
         try clear c18
         try clear c18b0
         try clear c18b1
         try clear c30
         try clear c31
         try clear c31b0
         try clear c31b1
         try clear c32
         try clear c33
         try clear c33b0
         try clear c33b1
         try clear c34
         try clear c34b0
         try clear c35
         try clear c38
         try clear c41
         try clear c46
         try clear hcz12_0
         try clear hcz12_1
         try clear hcz12_2
         try clear hcz12_3
         try clear hcz12_4
         try clear hcz36_0
         try clear hcz36_1
         try clear hcz36_2
         try clear hcz36_3
         try clear hcz36_4
         try clear hcz37_0
         try clear hcz37_1
         try clear hcz37_2
         try clear hcz37_3
         try clear hcz37_4
         try clear hcz39_0
         try clear hcz39_1
         try clear hcz39_2
         try clear hcz39_3
         try clear hcz39_4
         try clear hcz40_0
         try clear hcz40_1
         try clear hcz40_2
         try clear hcz40_3
         try clear hcz40_4
         try clear hcz42_0
         try clear hcz42_1
         try clear hcz42_2
         try clear hcz42_3
         try clear hcz42_4
         try clear hcz43_0
         try clear hcz43_1
         try clear hcz43_2
         try clear hcz43_3
         try clear hcz43_4
         try clear hfz12_0
         try clear hfz12_1
         try clear hfz12_2
         try clear hfz12_3
         try clear hfz12_4
         try clear hfz36_0
         try clear hfz36_1
         try clear hfz36_2
         try clear hfz36_3
         try clear hfz36_4
         try clear hfz37_0
         try clear hfz37_1
         try clear hfz37_2
         try clear hfz37_3
         try clear hfz37_4
         try clear hfz39_0
         try clear hfz39_1
         try clear hfz39_2
         try clear hfz39_3
         try clear hfz39_4
         try clear hfz40_0
         try clear hfz40_1
         try clear hfz40_2
         try clear hfz40_3
         try clear hfz40_4
         try clear hfz42_0
         try clear hfz42_1
         try clear hfz42_2
         try clear hfz42_3
         try clear hfz42_4
         try clear hfz43_0
         try clear hfz43_1
         try clear hfz43_2
         try clear hfz43_3
         try clear hfz43_4
         try clear p2
         try clear p6
         obtain ⟨kq, x76_43, rfl, HA, HJ43, HO_201002, BK191, BK200, HB⟩ := hcut
         cases kq with
         | zero => exact absurd HA.out (by simp [path_Parse.j2])
         | succ kj43 =>
          have H := HA.out
          clear HA
          simp only [path_Parse.j2] at H
          by_cases c49 : x76_43 = true
          ·subst c49
           replace H : (if t201 = 0 then (if (wrap64 ((a0.size : Int) - (js19.size : Int))) > 256 then (some (false, false, ([] : List ByteArray), (⟨#[]⟩ : ByteArray), (⟨#[]⟩ : ByteArray), (⟨#[]⟩ : ByteArray), 3)) else (some (false, true, t194, (⟨#[]⟩ : ByteArray), (⟨#[]⟩ : ByteArray), js19, 0))) else (some (false, false, ([] : List ByteArray), (⟨#[]⟩ : ByteArray), (⟨#[]⟩ : ByteArray), (⟨#[]⟩ : ByteArray), 3))) = some (r1, r2, r3, r4, r5, r6, r7) := by rw [if_pos rfl] at H; exact H
           by_cases c50 : t201 = 0
           ·rw [if_pos c50] at H
            have c50b0 : (t201 == 0) = true := beq_iff_eq.mpr c50
            have c50b1 : (t201 != 0) = false := bne_eq_false_iff_eq.mpr c50
            clear c50
            by_cases c51 : (wrap64 ((a0.size : Int) - (js19.size : Int))) > 256
            ·rw [if_pos c51] at H
             have c51b0 : decide (256 < (wrap64 ((a0.size : Int) - (js19.size : Int)))) = true := decide_eq_true c51
             clear c51
             simp only [Option.some.injEq, Prod.mk.injEq] at H
             obtain ⟨rfl, rfl, rfl, rfl, rfl, rfl, rfl⟩ := H
             have hnb52 := NB200_191.out
             have hnc52 := NB191_200.out
             have hcz53_0 := cz BK200.out 0 (.bool false)
             have hcz53_1 := cz BK200.out 1 (.bool false)
             have hcz53_2 := cz BK200.out 2 (.slice Ao23 t194.length co23)
             have hcz53_3 := cz BK200.out 3 (.string (⟨#[]⟩ : ByteArray))
             have hcz53_4 := cz BK200.out 4 (.string (⟨#[]⟩ : ByteArray))
             have hfz53_0 := blk_frozen BK200.out 0
             have hfz53_1 := blk_frozen BK200.out 1
             have hfz53_2 := blk_frozen BK200.out 2
             have hfz53_3 := blk_frozen BK200.out 3
             have hfz53_4 := blk_frozen BK200.out 4
             have hcz54_0 := cz BK191.out 0 (.bool false)
             have hcz54_1 := cz BK191.out 1 (.bool false)
             have hcz54_2 := cz BK191.out 2 (.slice none 0 0)
             have hcz54_3 := cz BK191.out 3 (.string (⟨#[]⟩ : ByteArray))
             have hcz54_4 := cz BK191.out 4 (.string (⟨#[]⟩ : ByteArray))
             have hfz54_0 := blk_frozen BK191.out 0
             have hfz54_1 := blk_frozen BK191.out 1
             have hfz54_2 := blk_frozen BK191.out 2
             have hfz54_3 := blk_frozen BK191.out 3
             have hfz54_4 := blk_frozen BK191.out 4
             go_wp2
             refine bodyPost_ret (results_ctt rfl _ _ gb191 26 #[.bool false, .bool false, .slice none 0 0, .string (⟨#[]⟩ : ByteArray), .string (⟨#[]⟩ : ByteArray)] (0, 0) _ rfl (by (with_reducible repeat (first | refine blk_drewN ?_ _ | refine blk_drew ?_ | refine blk_alloc ?_ _)); refine blk_put (cs := #[.bool false, .bool false, .slice none 0 0, .string (⟨#[]⟩ : ByteArray), .string (⟨#[]⟩ : ByteArray)]) ?_ 4 _ rfl; (with_reducible repeat (first | refine blk_drewN ?_ _ | refine blk_drew ?_ | refine blk_alloc ?_ _)); refine blk_put (cs := #[.bool false, .bool false, .slice none 0 0, .string (⟨#[]⟩ : ByteArray), .string (⟨#[]⟩ : ByteArray)]) ?_ 3 _ rfl; (with_reducible repeat (first | refine blk_drewN ?_ _ | refine blk_drew ?_ | refine blk_alloc ?_ _)); refine blk_put (cs := #[.bool false, .bool false, .slice none 0 0, .string (⟨#[]⟩ : ByteArray), .string (⟨#[]⟩ : ByteArray)]) ?_ 2 _ rfl; (with_reducible repeat (first | refine blk_drewN ?_ _ | refine blk_drew ?_ | refine blk_alloc ?_ _)); refine blk_put (cs := #[.bool false, .bool false, .slice none 0 0, .string (⟨#[]⟩ : ByteArray), .string (⟨#[]⟩ : ByteArray)]) ?_ 1 _ rfl; (with_reducible repeat (first | refine blk_drewN ?_ _ | refine blk_drew ?_ | refine blk_alloc ?_ _)); refine blk_put (cs := #[.bool false, .bool false, .slice none 0 0, .string (⟨#[]⟩ : ByteArray), .string (⟨#[]⟩ : ByteArray)]) ?_ 0 _ rfl; (with_reducible repeat (first | refine blk_drewN ?_ _ | refine blk_drew ?_ | refine blk_alloc ?_ _)); refine blk_far ?_ NB191_200.out _; (with_reducible repeat (first | refine blk_drewN ?_ _ | refine blk_drew ?_ | refine blk_alloc ?_ _)); exact BK191.out) Tryz.underlying26 rfl kf) rfl ?_
             exact ⟨_, by first | rfl | (simp [errW_none, errW_some] <;> rfl) | (simp only [← hji16]; first | rfl | (simp [errW_none, errW_some] <;> rfl)) | (simp [*, errW_none, errW_some] <;> rfl), by first | exact Kd.R_nil _ _ _ _ _ | exact Kd.N_nil _ _ _ _ _ | exact Kd.V_nil _ _ _ _ _ | exact Kd.Q_nil _ _ _ _ _ | exact Kd.S_nil _ _ _ _ _, bl⟩
            ·rw [if_neg c51] at H
             have c51b0 : decide (256 < (wrap64 ((a0.size : Int) - (js19.size : Int)))) = false := decide_eq_false c51
             clear c51
             simp only [Option.some.injEq, Prod.mk.injEq] at H
             obtain ⟨rfl, rfl, rfl, rfl, rfl, rfl, rfl⟩ := H
             have hnb55 := NB200_191.out
             have hnc55 := NB191_200.out
             have hcz56_0 := cz BK200.out 0 (.bool false)
             have hcz56_1 := cz BK200.out 1 (.bool false)
             have hcz56_2 := cz BK200.out 2 (.slice Ao23 t194.length co23)
             have hcz56_3 := cz BK200.out 3 (.string (⟨#[]⟩ : ByteArray))
             have hcz56_4 := cz BK200.out 4 (.string (⟨#[]⟩ : ByteArray))
             have hfz56_0 := blk_frozen BK200.out 0
             have hfz56_1 := blk_frozen BK200.out 1
             have hfz56_2 := blk_frozen BK200.out 2
             have hfz56_3 := blk_frozen BK200.out 3
             have hfz56_4 := blk_frozen BK200.out 4
             have hcz57_0 := cz BK191.out 0 (.bool false)
             have hcz57_1 := cz BK191.out 1 (.bool false)
             have hcz57_2 := cz BK191.out 2 (.slice none 0 0)
             have hcz57_3 := cz BK191.out 3 (.string (⟨#[]⟩ : ByteArray))
             have hcz57_4 := cz BK191.out 4 (.string (⟨#[]⟩ : ByteArray))
             have hfz57_0 := blk_frozen BK191.out 0
             have hfz57_1 := blk_frozen BK191.out 1
             have hfz57_2 := blk_frozen BK191.out 2
             have hfz57_3 := blk_frozen BK191.out 3
             have hfz57_4 := blk_frozen BK191.out 4
             go_wp2
             refine bodyPost_ret (results_ctt rfl _ _ gb191 26 #[.bool false, .bool true, .slice Ao23 t194.length co23, .string (⟨#[]⟩ : ByteArray), .string (⟨#[]⟩ : ByteArray)] (0, 0) _ rfl (by (with_reducible repeat (first | refine blk_drewN ?_ _ | refine blk_drew ?_ | refine blk_alloc ?_ _)); refine blk_put (cs := #[.bool false, .bool true, .slice Ao23 t194.length co23, .string (⟨#[]⟩ : ByteArray), .string (⟨#[]⟩ : ByteArray)]) ?_ 4 _ rfl; (with_reducible repeat (first | refine blk_drewN ?_ _ | refine blk_drew ?_ | refine blk_alloc ?_ _)); refine blk_put (cs := #[.bool false, .bool true, .slice Ao23 t194.length co23, .string (⟨#[]⟩ : ByteArray), .string (⟨#[]⟩ : ByteArray)]) ?_ 3 _ rfl; (with_reducible repeat (first | refine blk_drewN ?_ _ | refine blk_drew ?_ | refine blk_alloc ?_ _)); refine blk_put (cs := #[.bool false, .bool true, .slice none 0 0, .string (⟨#[]⟩ : ByteArray), .string (⟨#[]⟩ : ByteArray)]) ?_ 2 _ rfl; (with_reducible repeat (first | refine blk_drewN ?_ _ | refine blk_drew ?_ | refine blk_alloc ?_ _)); refine blk_put (cs := #[.bool false, .bool false, .slice none 0 0, .string (⟨#[]⟩ : ByteArray), .string (⟨#[]⟩ : ByteArray)]) ?_ 1 _ rfl; (with_reducible repeat (first | refine blk_drewN ?_ _ | refine blk_drew ?_ | refine blk_alloc ?_ _)); refine blk_put (cs := #[.bool false, .bool false, .slice none 0 0, .string (⟨#[]⟩ : ByteArray), .string (⟨#[]⟩ : ByteArray)]) ?_ 0 _ rfl; (with_reducible repeat (first | refine blk_drewN ?_ _ | refine blk_drew ?_ | refine blk_alloc ?_ _)); refine blk_far ?_ NB191_200.out _; (with_reducible repeat (first | refine blk_drewN ?_ _ | refine blk_drew ?_ | refine blk_alloc ?_ _)); exact BK191.out) Tryz.underlying26 rfl kf) rfl ?_
             exact ⟨_, by first | rfl | (simp [errW_none, errW_some] <;> rfl) | (simp only [← hji16]; first | rfl | (simp [errW_none, errW_some] <;> rfl)) | (simp [*, errW_none, errW_some] <;> rfl), by (with_reducible repeat (first | apply Kd.R_alloc | apply Kd.R_drewN | apply Kd.R_drew)); exact Kd.R_mono (Kd.R_far (p := ⟨gb191, 4, none⟩) (Kd.R_far (p := ⟨gb191, 3, none⟩) (Kd.R_far (p := ⟨gb191, 2, none⟩) (Kd.R_far (p := ⟨gb191, 1, none⟩) (Kd.R_far (p := ⟨gb191, 0, none⟩) (Kd.R_far (p := ⟨gb200, 1, none⟩) (Kd.R_types (Kd.R_types HO_201002.out BK200.out (by decide)) BK191.out (by decide)) (fun _ hk => hk.1.2) (.bool true)) (fun _ hk => hk.2) (.bool false)) (fun _ hk => hk.2) (.bool true)) (fun _ hk => hk.2) (.slice Ao23 t194.length co23)) (fun _ hk => hk.2) (.string (⟨#[]⟩ : ByteArray))) (fun _ hk => hk.2) (.string (⟨#[]⟩ : ByteArray))) (fun _ hk => trivial), bl⟩
           ·rw [if_neg c50] at H
            have c50b0 : (t201 == 0) = false := beq_eq_false_iff_ne.mpr c50
            have c50b1 : (t201 != 0) = true := bne_iff_ne.mpr c50
            simp only [Option.some.injEq, Prod.mk.injEq] at H
            obtain ⟨rfl, rfl, rfl, rfl, rfl, rfl, rfl⟩ := H
            have hnb58 := NB200_191.out
            have hnc58 := NB191_200.out
            have hcz59_0 := cz BK200.out 0 (.bool false)
            have hcz59_1 := cz BK200.out 1 (.bool false)
            have hcz59_2 := cz BK200.out 2 (.slice Ao23 t194.length co23)
            have hcz59_3 := cz BK200.out 3 (.string (⟨#[]⟩ : ByteArray))
            have hcz59_4 := cz BK200.out 4 (.string (⟨#[]⟩ : ByteArray))
            have hfz59_0 := blk_frozen BK200.out 0
            have hfz59_1 := blk_frozen BK200.out 1
            have hfz59_2 := blk_frozen BK200.out 2
            have hfz59_3 := blk_frozen BK200.out 3
            have hfz59_4 := blk_frozen BK200.out 4
            have hcz60_0 := cz BK191.out 0 (.bool false)
            have hcz60_1 := cz BK191.out 1 (.bool false)
            have hcz60_2 := cz BK191.out 2 (.slice none 0 0)
            have hcz60_3 := cz BK191.out 3 (.string (⟨#[]⟩ : ByteArray))
            have hcz60_4 := cz BK191.out 4 (.string (⟨#[]⟩ : ByteArray))
            have hfz60_0 := blk_frozen BK191.out 0
            have hfz60_1 := blk_frozen BK191.out 1
            have hfz60_2 := blk_frozen BK191.out 2
            have hfz60_3 := blk_frozen BK191.out 3
            have hfz60_4 := blk_frozen BK191.out 4
            go_wp2
            refine bodyPost_ret (results_ctt rfl _ _ gb191 26 #[.bool false, .bool false, .slice none 0 0, .string (⟨#[]⟩ : ByteArray), .string (⟨#[]⟩ : ByteArray)] (0, 0) _ rfl (by (with_reducible repeat (first | refine blk_drewN ?_ _ | refine blk_drew ?_ | refine blk_alloc ?_ _)); refine blk_put (cs := #[.bool false, .bool false, .slice none 0 0, .string (⟨#[]⟩ : ByteArray), .string (⟨#[]⟩ : ByteArray)]) ?_ 4 _ rfl; (with_reducible repeat (first | refine blk_drewN ?_ _ | refine blk_drew ?_ | refine blk_alloc ?_ _)); refine blk_put (cs := #[.bool false, .bool false, .slice none 0 0, .string (⟨#[]⟩ : ByteArray), .string (⟨#[]⟩ : ByteArray)]) ?_ 3 _ rfl; (with_reducible repeat (first | refine blk_drewN ?_ _ | refine blk_drew ?_ | refine blk_alloc ?_ _)); refine blk_put (cs := #[.bool false, .bool false, .slice none 0 0, .string (⟨#[]⟩ : ByteArray), .string (⟨#[]⟩ : ByteArray)]) ?_ 2 _ rfl; (with_reducible repeat (first | refine blk_drewN ?_ _ | refine blk_drew ?_ | refine blk_alloc ?_ _)); refine blk_put (cs := #[.bool false, .bool false, .slice none 0 0, .string (⟨#[]⟩ : ByteArray), .string (⟨#[]⟩ : ByteArray)]) ?_ 1 _ rfl; (with_reducible repeat (first | refine blk_drewN ?_ _ | refine blk_drew ?_ | refine blk_alloc ?_ _)); refine blk_put (cs := #[.bool false, .bool false, .slice none 0 0, .string (⟨#[]⟩ : ByteArray), .string (⟨#[]⟩ : ByteArray)]) ?_ 0 _ rfl; (with_reducible repeat (first | refine blk_drewN ?_ _ | refine blk_drew ?_ | refine blk_alloc ?_ _)); refine blk_far ?_ NB191_200.out _; (with_reducible repeat (first | refine blk_drewN ?_ _ | refine blk_drew ?_ | refine blk_alloc ?_ _)); exact BK191.out) Tryz.underlying26 rfl kf) rfl ?_
            exact ⟨_, by first | rfl | (simp [errW_none, errW_some] <;> rfl) | (simp only [← hji16]; first | rfl | (simp [errW_none, errW_some] <;> rfl)) | (simp [*, errW_none, errW_some] <;> rfl), by first | exact Kd.R_nil _ _ _ _ _ | exact Kd.N_nil _ _ _ _ _ | exact Kd.V_nil _ _ _ _ _ | exact Kd.Q_nil _ _ _ _ _ | exact Kd.S_nil _ _ _ _ _, bl⟩
          ·replace c49 := Bool.eq_false_iff.mpr c49
           subst c49
           replace H : ((addr_Parse.f kj43 js15).bind fun bt203 => (if bt203.2.2 = 5 then (path_Parse.j3 kj43 a0 js19 t201 bt203.2.2 true false false t194 (⟨#[]⟩ : ByteArray) (⟨#[]⟩ : ByteArray) bt203.1 bt203.2.1) else (path_Parse.j3 kj43 a0 js19 t201 bt203.2.2 (t201 == 5) false false t194 (⟨#[]⟩ : ByteArray) (⟨#[]⟩ : ByteArray) bt203.1 bt203.2.1))) = some (r1, r2, r3, r4, r5, r6, r7) := by rw [if_neg (show ¬ (false = true) by decide)] at H; exact H
           obtain ⟨⟨t203, t204, t205⟩, A610, H⟩ := Option.bind_eq_some_iff.mp H
           replace H : (if t205 = 5 then (path_Parse.j3 kj43 a0 js19 t201 t205 true false false t194 (⟨#[]⟩ : ByteArray) (⟨#[]⟩ : ByteArray) t203 t204) else (path_Parse.j3 kj43 a0 js19 t201 t205 (t201 == 5) false false t194 (⟨#[]⟩ : ByteArray) (⟨#[]⟩ : ByteArray) t203 t204)) = some (r1, r2, r3, r4, r5, r6, r7) := H
           have A61 := Aside0.mk A610
           clear A610
           have HC62 := Aside0.mk H
           clear H
           go_upto_region 11 with (first | ((with_reducible refine gate_callee (f := 35) rfl ?_); refine goesL_ (some 52) rfl rfl Tryz.func35 kf rfl #[.string js15] rfl ml ?_; (with_reducible refine (addr_Parse.calls kj43 js15 t203 t204 t205 _ ?side1 A61.out).mono ?_); (case side1 => exact Glob.below HG.out bl); rintro e w63 ⟨rfl, hb⟩; refine ⟨_, rfl, ?_⟩; replace HO_201002 := Aside0.mk (Kd.R_below (kr HO_201002.out) hb); replace BK191 := Aside0.mk (kb BK191.out hb); replace BK200 := Aside0.mk (kb BK200.out hb); replace HB := Aside0.mk (below_step bl hb); (try clear hb); (try clear hb2); (try clear hk); (try clear hi)) | ((with_reducible refine gate_dst (N := 14) rfl ?_); (try (refine gate_guard (by rfl) ?_; dsimp only)); refine box_event ?hg (N := 14) ?hd (cs := #[.string (⟨#[]⟩ : ByteArray), .string (⟨#[]⟩ : ByteArray)]) (t := 24) ?hr ?_; (case hd => rfl); (case hg => rfl); (case hr => first | (go_simp; done) | (go_simp; rfl)); intro gb206 hg w64 hbox hb; replace HO_201002 := Aside0.mk (Kd.R_below (kr HO_201002.out) hb); have BK206 := Aside0.mk (hbox); have GW206 := Aside0.mk (gz hg : w.heap.size ≤ gb206); have GE206 := Aside0.mk (gz hg : w.heap.size ≤ gb206); replace HB := Aside0.mk (below_step bl hb); have NB191_206 := Aside0.mk (nl hg BK191.out : gb191 ≠ gb206); have NB206_191 := Aside0.mk (ng hg BK191.out : gb206 ≠ gb191); replace BK191 := Aside0.mk (kb BK191.out hb); have NB200_206 := Aside0.mk (nl hg BK200.out : gb200 ≠ gb206); have NB206_200 := Aside0.mk (ng hg BK200.out : gb206 ≠ gb200); replace BK200 := Aside0.mk (kb BK200.out hb); clear hb hbox hg; have hnb65 := NB206_191.out; have hnc65 := NB191_206.out; have hnb66 := NB206_200.out; have hnc66 := NB200_206.out; have hcz67_0 := cz BK206.out 0 (.string (⟨#[]⟩ : ByteArray)); have hcz67_1 := cz BK206.out 1 (.string (⟨#[]⟩ : ByteArray)); have hfz67_0 := blk_frozen BK206.out 0; have hfz67_1 := blk_frozen BK206.out 1))
           (try simp only [Act.put, sA, sB, sC])
           go_cut [60] (fun v60 wc => ∃ (kq : Nat) (x60_61 : Bool), v60 = .bool x60_61 ∧ Aside0 (path_Parse.j3 kq a0 js19 t201 t205 x60_61 false false t194 (⟨#[]⟩ : ByteArray) (⟨#[]⟩ : ByteArray) t203 t204 = some (r1, r2, r3, r4, r5, r6, r7)) ∧ Aside0 (kq ≤ kj43) ∧ Aside0 (Kd.R Kd.string 9 wc w.heap.size (fun _ => True) (.slice Ao23 t194.length co23) t194) ∧ Aside0 (wc.heap[gb191]? = some (.cells #[.bool false, .bool false, (.slice none 0 0), .string (⟨#[]⟩ : ByteArray), .string (⟨#[]⟩ : ByteArray)] 26 (0, 0))) ∧ Aside0 (wc.heap[gb200]? = some (.cells #[.bool false, .bool false, (.slice Ao23 t194.length co23), .string (⟨#[]⟩ : ByteArray), .string (⟨#[]⟩ : ByteArray)] 26 (0, 0))) ∧ Aside0 (wc.heap[gb206]? = some (.cells #[.string t203, .string t204] 24 (0, 0))) ∧ Aside0 (Below w.heap.size w wc))
           case first =>
            have H := HC62.out
            clear HC62
            by_cases c68 : t205 = 5
            ·rw [if_pos c68] at H
             have c68b0 : (t205 == 5) = true := beq_iff_eq.mpr c68
             have c68b1 : (t205 != 5) = false := bne_eq_false_iff_eq.mpr c68
             clear c68
             (first | rw [c68b0] | (simp only [i64_w, i32_w]; rw [c68b0]) | skip)
             have H' := Aside0.mk H
             clear H
             go_wp2
             go_meet
             case rel => exact ⟨_, (true), rs, H', ⟨by have := HJ5.out; have := HJ20.out; have := HJ43.out; first | omega | exact Nat.le_refl _⟩, ⟨by (with_reducible repeat (first | apply Kd.R_alloc | apply Kd.R_drewN | apply Kd.R_drew)); exact Kd.R_mono (Kd.R_far (p := ⟨gb206, 1, none⟩) (Kd.R_far (p := ⟨gb206, 0, none⟩) (Kd.R_types HO_201002.out BK206.out (by decide)) (fun _ hk => hk.2) (.string t203)) (fun _ hk => hk.2) (.string t204)) (fun _ hk => trivial)⟩, ⟨bk BK191.out⟩, ⟨bk BK200.out⟩, ⟨by (with_reducible repeat (first | refine blk_drewN ?_ _ | refine blk_drew ?_ | refine blk_alloc ?_ _)); refine blk_put (cs := #[.string t203, .string (⟨#[]⟩ : ByteArray)]) ?_ 1 _ rfl; (with_reducible repeat (first | refine blk_drewN ?_ _ | refine blk_drew ?_ | refine blk_alloc ?_ _)); refine blk_put (cs := #[.string (⟨#[]⟩ : ByteArray), .string (⟨#[]⟩ : ByteArray)]) ?_ 0 _ rfl; (with_reducible repeat (first | refine blk_drewN ?_ _ | refine blk_drew ?_ | refine blk_alloc ?_ _)); exact BK206.out⟩, ⟨bl⟩⟩
            ·rw [if_neg c68] at H
             have c68b0 : (t205 == 5) = false := beq_eq_false_iff_ne.mpr c68
             have c68b1 : (t205 != 5) = true := bne_iff_ne.mpr c68
             (first | rw [c68b0] | (simp only [i64_w, i32_w]; rw [c68b0]) | skip)
             have H' := Aside0.mk H
             clear H
             go_wp2
             go_meet
             case rel => exact ⟨_, ((t201 == 5)), rs, H', ⟨by have := HJ5.out; have := HJ20.out; have := HJ43.out; first | omega | exact Nat.le_refl _⟩, ⟨by (with_reducible repeat (first | apply Kd.R_alloc | apply Kd.R_drewN | apply Kd.R_drew)); exact Kd.R_mono (Kd.R_far (p := ⟨gb206, 1, none⟩) (Kd.R_far (p := ⟨gb206, 0, none⟩) (Kd.R_types HO_201002.out BK206.out (by decide)) (fun _ hk => hk.2) (.string t203)) (fun _ hk => hk.2) (.string t204)) (fun _ hk => trivial)⟩, ⟨bk BK191.out⟩, ⟨bk BK200.out⟩, ⟨by (with_reducible repeat (first | refine blk_drewN ?_ _ | refine blk_drew ?_ | refine blk_alloc ?_ _)); refine blk_put (cs := #[.string t203, .string (⟨#[]⟩ : ByteArray)]) ?_ 1 _ rfl; (with_reducible repeat (first | refine blk_drewN ?_ _ | refine blk_drew ?_ | refine blk_alloc ?_ _)); refine blk_put (cs := #[.string (⟨#[]⟩ : ByteArray), .string (⟨#[]⟩ : ByteArray)]) ?_ 0 _ rfl; (with_reducible repeat (first | refine blk_drewN ?_ _ | refine blk_drew ?_ | refine blk_alloc ?_ _)); exact BK206.out⟩, ⟨bl⟩⟩
           case rest =>
            clear HC62
            try clear c1
            try clear p2
            try clear c3
            try clear c4
            try clear c5
            try clear c6
            try clear p6
            try clear c10
            try clear c11
            try clear c13
            try clear c13b0
            try clear c13b1
            try clear c14
            try clear c14b0
            try clear c14b1
            try clear c17
            try clear c17b0
            try clear c17b1
            try clear c18
            try clear c18b0
            try clear c18b1
            try clear c30
            try clear c31
            try clear c31b0
            try clear c31b1
            try clear c32
            try clear c33
            try clear c33b0
            try clear c33b1
            try clear c34
            try clear c34b0
            try clear c35
            try clear c38
            try clear c41
            try clear c46
            try clear c49
            try clear c50
            try clear c50b0
            try clear c50b1
            try clear c51
            try clear c51b0
            try clear c52
            try clear c55
            try clear c58
            try clear p64
            try clear c65
            try clear c66
            try clear c68
            try clear c68b0
            try clear c68b1
            try clear hcz12_0
            try clear hcz12_1
            try clear hcz12_2
            try clear hcz12_3
            try clear hcz12_4
            try clear hcz36_0
            try clear hcz36_1
            try clear hcz36_2
            try clear hcz36_3
            try clear hcz36_4
            try clear hcz37_0
            try clear hcz37_1
            try clear hcz37_2
            try clear hcz37_3
            try clear hcz37_4
            try clear hcz39_0
            try clear hcz39_1
            try clear hcz39_2
            try clear hcz39_3
            try clear hcz39_4
            try clear hcz40_0
            try clear hcz40_1
            try clear hcz40_2
            try clear hcz40_3
            try clear hcz40_4
            try clear hcz42_0
            try clear hcz42_1
            try clear hcz42_2
            try clear hcz42_3
            try clear hcz42_4
            try clear hcz43_0
            try clear hcz43_1
            try clear hcz43_2
            try clear hcz43_3
            try clear hcz43_4
            try clear hcz53_0
            try clear hcz53_1
            try clear hcz53_2
            try clear hcz53_3
            try clear hcz53_4
            try clear hcz54_0
            try clear hcz54_1
            try clear hcz54_2
            try clear hcz54_3
            try clear hcz54_4
            try clear hcz56_0
            try clear hcz56_1
            try clear hcz56_2
            try clear hcz56_3
            try clear hcz56_4
            try clear hcz57_0
            try clear hcz57_1
            try clear hcz57_2
            try clear hcz57_3
            try clear hcz57_4
            try clear hcz59_0
            try clear hcz59_1
            try clear hcz59_2
            try clear hcz59_3
            try clear hcz59_4
            try clear hcz60_0
            try clear hcz60_1
            try clear hcz60_2
            try clear hcz60_3
            try clear hcz60_4
            try clear hcz67_0
            try clear hcz67_1
            try clear hfz12_0
            try clear hfz12_1
            try clear hfz12_2
            try clear hfz12_3
            try clear hfz12_4
            try clear hfz36_0
            try clear hfz36_1
            try clear hfz36_2
            try clear hfz36_3
            try clear hfz36_4
            try clear hfz37_0
            try clear hfz37_1
            try clear hfz37_2
            try clear hfz37_3
            try clear hfz37_4
            try clear hfz39_0
            try clear hfz39_1
            try clear hfz39_2
            try clear hfz39_3
            try clear hfz39_4
            try clear hfz40_0
            try clear hfz40_1
            try clear hfz40_2
            try clear hfz40_3
            try clear hfz40_4
            try clear hfz42_0
            try clear hfz42_1
            try clear hfz42_2
            try clear hfz42_3
            try clear hfz42_4
            try clear hfz43_0
            try clear hfz43_1
            try clear hfz43_2
            try clear hfz43_3
            try clear hfz43_4
            try clear hfz53_0
            try clear hfz53_1
            try clear hfz53_2
            try clear hfz53_3
            try clear hfz53_4
            try clear hfz54_0
            try clear hfz54_1
            try clear hfz54_2
            try clear hfz54_3
            try clear hfz54_4
            try clear hfz56_0
            try clear hfz56_1
            try clear hfz56_2
            try clear hfz56_3
            try clear hfz56_4
            try clear hfz57_0
            try clear hfz57_1
            try clear hfz57_2
            try clear hfz57_3
            try clear hfz57_4
            try clear hfz59_0
            try clear hfz59_1
            try clear hfz59_2
            try clear hfz59_3
            try clear hfz59_4
            try clear hfz60_0
            try clear hfz60_1
            try clear hfz60_2
            try clear hfz60_3
            try clear hfz60_4
            try clear hfz67_0
            try clear hfz67_1
            try clear p2
            try clear p6
            obtain ⟨kq, x60_61, rfl, HA, HJ61, HO_201002, BK191, BK200, BK206, HB⟩ := hcut
            cases kq with
            | zero => exact absurd HA.out (by simp [path_Parse.j3])
            | succ kj61 =>
             have H := HA.out
             clear HA
             simp only [path_Parse.j3] at H
             by_cases c69 : x60_61 = true
             ·subst c69
              replace H : (some (false, false, ([] : List ByteArray), (⟨#[]⟩ : ByteArray), (⟨#[]⟩ : ByteArray), (⟨#[]⟩ : ByteArray), 5)) = some (r1, r2, r3, r4, r5, r6, r7) := by rw [if_pos rfl] at H; exact H
              simp only [Option.some.injEq, Prod.mk.injEq] at H
              obtain ⟨rfl, rfl, rfl, rfl, rfl, rfl, rfl⟩ := H
              have hnb70 := NB191_200.out
              have hnc70 := NB200_191.out
              have hnb71 := NB191_206.out
              have hnc71 := NB206_191.out
              have hcz72_0 := cz BK191.out 0 (.bool false)
              have hcz72_1 := cz BK191.out 1 (.bool false)
              have hcz72_2 := cz BK191.out 2 (.slice none 0 0)
              have hcz72_3 := cz BK191.out 3 (.string (⟨#[]⟩ : ByteArray))
              have hcz72_4 := cz BK191.out 4 (.string (⟨#[]⟩ : ByteArray))
              have hfz72_0 := blk_frozen BK191.out 0
              have hfz72_1 := blk_frozen BK191.out 1
              have hfz72_2 := blk_frozen BK191.out 2
              have hfz72_3 := blk_frozen BK191.out 3
              have hfz72_4 := blk_frozen BK191.out 4
              go_wp2
              refine bodyPost_ret (results_ctt rfl _ _ gb191 26 #[.bool false, .bool false, .slice none 0 0, .string (⟨#[]⟩ : ByteArray), .string (⟨#[]⟩ : ByteArray)] (0, 0) _ rfl (by (with_reducible repeat (first | refine blk_drewN ?_ _ | refine blk_drew ?_ | refine blk_alloc ?_ _)); refine blk_put (cs := #[.bool false, .bool false, .slice none 0 0, .string (⟨#[]⟩ : ByteArray), .string (⟨#[]⟩ : ByteArray)]) ?_ 4 _ rfl; (with_reducible repeat (first | refine blk_drewN ?_ _ | refine blk_drew ?_ | refine blk_alloc ?_ _)); refine blk_put (cs := #[.bool false, .bool false, .slice none 0 0, .string (⟨#[]⟩ : ByteArray), .string (⟨#[]⟩ : ByteArray)]) ?_ 3 _ rfl; (with_reducible repeat (first | refine blk_drewN ?_ _ | refine blk_drew ?_ | refine blk_alloc ?_ _)); refine blk_put (cs := #[.bool false, .bool false, .slice none 0 0, .string (⟨#[]⟩ : ByteArray), .string (⟨#[]⟩ : ByteArray)]) ?_ 2 _ rfl; (with_reducible repeat (first | refine blk_drewN ?_ _ | refine blk_drew ?_ | refine blk_alloc ?_ _)); refine blk_put (cs := #[.bool false, .bool false, .slice none 0 0, .string (⟨#[]⟩ : ByteArray), .string (⟨#[]⟩ : ByteArray)]) ?_ 1 _ rfl; (with_reducible repeat (first | refine blk_drewN ?_ _ | refine blk_drew ?_ | refine blk_alloc ?_ _)); refine blk_put (cs := #[.bool false, .bool false, .slice none 0 0, .string (⟨#[]⟩ : ByteArray), .string (⟨#[]⟩ : ByteArray)]) ?_ 0 _ rfl; (with_reducible repeat (first | refine blk_drewN ?_ _ | refine blk_drew ?_ | refine blk_alloc ?_ _)); exact BK191.out) Tryz.underlying26 rfl kf) rfl ?_
              exact ⟨_, by first | rfl | (simp [errW_none, errW_some] <;> rfl) | (simp only [← hji16]; first | rfl | (simp [errW_none, errW_some] <;> rfl)) | (simp [*, errW_none, errW_some] <;> rfl), by first | exact Kd.R_nil _ _ _ _ _ | exact Kd.N_nil _ _ _ _ _ | exact Kd.V_nil _ _ _ _ _ | exact Kd.Q_nil _ _ _ _ _ | exact Kd.S_nil _ _ _ _ _, bl⟩
             ·replace c69 := Bool.eq_false_iff.mpr c69
              subst c69
              replace H : (if (mx t201 t205) = 0 then (if (wrap64 ((a0.size : Int) - (js19.size : Int))) > 256 then (some (false, false, ([] : List ByteArray), (⟨#[]⟩ : ByteArray), (⟨#[]⟩ : ByteArray), (⟨#[]⟩ : ByteArray), 3)) else (some (false, false, t194, t203, t204, js19, 0))) else (some (false, false, ([] : List ByteArray), (⟨#[]⟩ : ByteArray), (⟨#[]⟩ : ByteArray), (⟨#[]⟩ : ByteArray), 3))) = some (r1, r2, r3, r4, r5, r6, r7) := by rw [if_neg (show ¬ (false = true) by decide)] at H; exact H
              obtain ⟨ji73, hji73⟩ : ∃ j_ : Int, (mx t201 t205) = j_ := ⟨_, rfl⟩
              replace H : (if (ji73) = 0 then (if (wrap64 ((a0.size : Int) - (js19.size : Int))) > 256 then (some (false, false, ([] : List ByteArray), (⟨#[]⟩ : ByteArray), (⟨#[]⟩ : ByteArray), (⟨#[]⟩ : ByteArray), 3)) else (some (false, false, t194, t203, t204, js19, 0))) else (some (false, false, ([] : List ByteArray), (⟨#[]⟩ : ByteArray), (⟨#[]⟩ : ByteArray), (⟨#[]⟩ : ByteArray), 3))) = some (r1, r2, r3, r4, r5, r6, r7) := by first | (rw [hji73] at H; exact H) | (simp only [hji73] at H ⊢; exact H)
              have hji73_ : (if t201 < t205 then t205 else t201) = ji73 := hji73
              by_cases c74 : (ji73) = 0
              ·rw [if_pos c74] at H
               have c74b0 : ((ji73) == 0) = true := beq_iff_eq.mpr c74
               have c74b1 : ((ji73) != 0) = false := bne_eq_false_iff_eq.mpr c74
               clear c74
               by_cases c75 : (wrap64 ((a0.size : Int) - (js19.size : Int))) > 256
               ·rw [if_pos c75] at H
                have c75b0 : decide (256 < (wrap64 ((a0.size : Int) - (js19.size : Int)))) = true := decide_eq_true c75
                clear c75
                simp only [Option.some.injEq, Prod.mk.injEq] at H
                obtain ⟨rfl, rfl, rfl, rfl, rfl, rfl, rfl⟩ := H
                have hnb76 := NB206_191.out
                have hnc76 := NB191_206.out
                have hnb77 := NB206_200.out
                have hnc77 := NB200_206.out
                have hcz78_0 := cz BK206.out 0 (.string t203)
                have hcz78_1 := cz BK206.out 1 (.string t204)
                have hfz78_0 := blk_frozen BK206.out 0
                have hfz78_1 := blk_frozen BK206.out 1
                have hnb79 := NB200_191.out
                have hnc79 := NB191_200.out
                have hcz80_0 := cz BK200.out 0 (.bool false)
                have hcz80_1 := cz BK200.out 1 (.bool false)
                have hcz80_2 := cz BK200.out 2 (.slice Ao23 t194.length co23)
                have hcz80_3 := cz BK200.out 3 (.string (⟨#[]⟩ : ByteArray))
                have hcz80_4 := cz BK200.out 4 (.string (⟨#[]⟩ : ByteArray))
                have hfz80_0 := blk_frozen BK200.out 0
                have hfz80_1 := blk_frozen BK200.out 1
                have hfz80_2 := blk_frozen BK200.out 2
                have hfz80_3 := blk_frozen BK200.out 3
                have hfz80_4 := blk_frozen BK200.out 4
                have hcz81_0 := cz BK191.out 0 (.bool false)
                have hcz81_1 := cz BK191.out 1 (.bool false)
                have hcz81_2 := cz BK191.out 2 (.slice none 0 0)
                have hcz81_3 := cz BK191.out 3 (.string (⟨#[]⟩ : ByteArray))
                have hcz81_4 := cz BK191.out 4 (.string (⟨#[]⟩ : ByteArray))
                have hfz81_0 := blk_frozen BK191.out 0
                have hfz81_1 := blk_frozen BK191.out 1
                have hfz81_2 := blk_frozen BK191.out 2
                have hfz81_3 := blk_frozen BK191.out 3
                have hfz81_4 := blk_frozen BK191.out 4
                go_wp2
                refine bodyPost_ret (results_ctt rfl _ _ gb191 26 #[.bool false, .bool false, .slice none 0 0, .string (⟨#[]⟩ : ByteArray), .string (⟨#[]⟩ : ByteArray)] (0, 0) _ rfl (by (with_reducible repeat (first | refine blk_drewN ?_ _ | refine blk_drew ?_ | refine blk_alloc ?_ _)); refine blk_put (cs := #[.bool false, .bool false, .slice none 0 0, .string (⟨#[]⟩ : ByteArray), .string (⟨#[]⟩ : ByteArray)]) ?_ 4 _ rfl; (with_reducible repeat (first | refine blk_drewN ?_ _ | refine blk_drew ?_ | refine blk_alloc ?_ _)); refine blk_put (cs := #[.bool false, .bool false, .slice none 0 0, .string (⟨#[]⟩ : ByteArray), .string (⟨#[]⟩ : ByteArray)]) ?_ 3 _ rfl; (with_reducible repeat (first | refine blk_drewN ?_ _ | refine blk_drew ?_ | refine blk_alloc ?_ _)); refine blk_put (cs := #[.bool false, .bool false, .slice none 0 0, .string (⟨#[]⟩ : ByteArray), .string (⟨#[]⟩ : ByteArray)]) ?_ 2 _ rfl; (with_reducible repeat (first | refine blk_drewN ?_ _ | refine blk_drew ?_ | refine blk_alloc ?_ _)); refine blk_put (cs := #[.bool false, .bool false, .slice none 0 0, .string (⟨#[]⟩ : ByteArray), .string (⟨#[]⟩ : ByteArray)]) ?_ 1 _ rfl; (with_reducible repeat (first | refine blk_drewN ?_ _ | refine blk_drew ?_ | refine blk_alloc ?_ _)); refine blk_put (cs := #[.bool false, .bool false, .slice none 0 0, .string (⟨#[]⟩ : ByteArray), .string (⟨#[]⟩ : ByteArray)]) ?_ 0 _ rfl; (with_reducible repeat (first | refine blk_drewN ?_ _ | refine blk_drew ?_ | refine blk_alloc ?_ _)); refine blk_far ?_ NB191_200.out _; (with_reducible repeat (first | refine blk_drewN ?_ _ | refine blk_drew ?_ | refine blk_alloc ?_ _)); refine blk_far ?_ NB191_200.out _; (with_reducible repeat (first | refine blk_drewN ?_ _ | refine blk_drew ?_ | refine blk_alloc ?_ _)); exact BK191.out) Tryz.underlying26 rfl kf) rfl ?_
                exact ⟨_, by first | rfl | (simp [errW_none, errW_some] <;> rfl) | (simp only [← hji16, ← hji73]; first | rfl | (simp [errW_none, errW_some] <;> rfl)) | (simp [*, errW_none, errW_some] <;> rfl), by first | exact Kd.R_nil _ _ _ _ _ | exact Kd.N_nil _ _ _ _ _ | exact Kd.V_nil _ _ _ _ _ | exact Kd.Q_nil _ _ _ _ _ | exact Kd.S_nil _ _ _ _ _, bl⟩
               ·rw [if_neg c75] at H
                have c75b0 : decide (256 < (wrap64 ((a0.size : Int) - (js19.size : Int)))) = false := decide_eq_false c75
                clear c75
                simp only [Option.some.injEq, Prod.mk.injEq] at H
                obtain ⟨rfl, rfl, rfl, rfl, rfl, rfl, rfl⟩ := H
                have hnb82 := NB206_191.out
                have hnc82 := NB191_206.out
                have hnb83 := NB206_200.out
                have hnc83 := NB200_206.out
                have hcz84_0 := cz BK206.out 0 (.string t203)
                have hcz84_1 := cz BK206.out 1 (.string t204)
                have hfz84_0 := blk_frozen BK206.out 0
                have hfz84_1 := blk_frozen BK206.out 1
                have hnb85 := NB200_191.out
                have hnc85 := NB191_200.out
                have hcz86_0 := cz BK200.out 0 (.bool false)
                have hcz86_1 := cz BK200.out 1 (.bool false)
                have hcz86_2 := cz BK200.out 2 (.slice Ao23 t194.length co23)
                have hcz86_3 := cz BK200.out 3 (.string (⟨#[]⟩ : ByteArray))
                have hcz86_4 := cz BK200.out 4 (.string (⟨#[]⟩ : ByteArray))
                have hfz86_0 := blk_frozen BK200.out 0
                have hfz86_1 := blk_frozen BK200.out 1
                have hfz86_2 := blk_frozen BK200.out 2
                have hfz86_3 := blk_frozen BK200.out 3
                have hfz86_4 := blk_frozen BK200.out 4
                have hcz87_0 := cz BK191.out 0 (.bool false)
                have hcz87_1 := cz BK191.out 1 (.bool false)
                have hcz87_2 := cz BK191.out 2 (.slice none 0 0)
                have hcz87_3 := cz BK191.out 3 (.string (⟨#[]⟩ : ByteArray))
                have hcz87_4 := cz BK191.out 4 (.string (⟨#[]⟩ : ByteArray))
                have hfz87_0 := blk_frozen BK191.out 0
                have hfz87_1 := blk_frozen BK191.out 1
                have hfz87_2 := blk_frozen BK191.out 2
                have hfz87_3 := blk_frozen BK191.out 3
                have hfz87_4 := blk_frozen BK191.out 4
                go_wp2
                refine bodyPost_ret (results_ctt rfl _ _ gb191 26 #[.bool false, .bool false, .slice Ao23 t194.length co23, .string t203, .string t204] (0, 0) _ rfl (by (with_reducible repeat (first | refine blk_drewN ?_ _ | refine blk_drew ?_ | refine blk_alloc ?_ _)); refine blk_put (cs := #[.bool false, .bool false, .slice Ao23 t194.length co23, .string t203, .string (⟨#[]⟩ : ByteArray)]) ?_ 4 _ rfl; (with_reducible repeat (first | refine blk_drewN ?_ _ | refine blk_drew ?_ | refine blk_alloc ?_ _)); refine blk_put (cs := #[.bool false, .bool false, .slice Ao23 t194.length co23, .string (⟨#[]⟩ : ByteArray), .string (⟨#[]⟩ : ByteArray)]) ?_ 3 _ rfl; (with_reducible repeat (first | refine blk_drewN ?_ _ | refine blk_drew ?_ | refine blk_alloc ?_ _)); refine blk_put (cs := #[.bool false, .bool false, .slice none 0 0, .string (⟨#[]⟩ : ByteArray), .string (⟨#[]⟩ : ByteArray)]) ?_ 2 _ rfl; (with_reducible repeat (first | refine blk_drewN ?_ _ | refine blk_drew ?_ | refine blk_alloc ?_ _)); refine blk_put (cs := #[.bool false, .bool false, .slice none 0 0, .string (⟨#[]⟩ : ByteArray), .string (⟨#[]⟩ : ByteArray)]) ?_ 1 _ rfl; (with_reducible repeat (first | refine blk_drewN ?_ _ | refine blk_drew ?_ | refine blk_alloc ?_ _)); refine blk_put (cs := #[.bool false, .bool false, .slice none 0 0, .string (⟨#[]⟩ : ByteArray), .string (⟨#[]⟩ : ByteArray)]) ?_ 0 _ rfl; (with_reducible repeat (first | refine blk_drewN ?_ _ | refine blk_drew ?_ | refine blk_alloc ?_ _)); refine blk_far ?_ NB191_200.out _; (with_reducible repeat (first | refine blk_drewN ?_ _ | refine blk_drew ?_ | refine blk_alloc ?_ _)); refine blk_far ?_ NB191_200.out _; (with_reducible repeat (first | refine blk_drewN ?_ _ | refine blk_drew ?_ | refine blk_alloc ?_ _)); exact BK191.out) Tryz.underlying26 rfl kf) rfl ?_
                exact ⟨_, by first | rfl | (simp [errW_none, errW_some] <;> rfl) | (simp only [← hji16, ← hji73]; first | rfl | (simp [errW_none, errW_some] <;> rfl)) | (simp [*, errW_none, errW_some] <;> rfl), by (with_reducible repeat (first | apply Kd.R_alloc | apply Kd.R_drewN | apply Kd.R_drew)); exact Kd.R_mono (Kd.R_far (p := ⟨gb191, 4, none⟩) (Kd.R_far (p := ⟨gb191, 3, none⟩) (Kd.R_far (p := ⟨gb191, 2, none⟩) (Kd.R_far (p := ⟨gb191, 1, none⟩) (Kd.R_far (p := ⟨gb191, 0, none⟩) (Kd.R_far (p := ⟨gb200, 4, none⟩) (Kd.R_far (p := ⟨gb200, 3, none⟩) (Kd.R_types (Kd.R_types HO_201002.out BK200.out (by decide)) BK191.out (by decide)) (fun _ hk => hk.1.2) (.string t203)) (fun _ hk => hk.1.2) (.string t204)) (fun _ hk => hk.2) (.bool false)) (fun _ hk => hk.2) (.bool false)) (fun _ hk => hk.2) (.slice Ao23 t194.length co23)) (fun _ hk => hk.2) (.string t203)) (fun _ hk => hk.2) (.string t204)) (fun _ hk => trivial), bl⟩
              ·rw [if_neg c74] at H
               have c74b0 : ((ji73) == 0) = false := beq_eq_false_iff_ne.mpr c74
               have c74b1 : ((ji73) != 0) = true := bne_iff_ne.mpr c74
               simp only [Option.some.injEq, Prod.mk.injEq] at H
               obtain ⟨rfl, rfl, rfl, rfl, rfl, rfl, rfl⟩ := H
               have hnb88 := NB206_191.out
               have hnc88 := NB191_206.out
               have hnb89 := NB206_200.out
               have hnc89 := NB200_206.out
               have hcz90_0 := cz BK206.out 0 (.string t203)
               have hcz90_1 := cz BK206.out 1 (.string t204)
               have hfz90_0 := blk_frozen BK206.out 0
               have hfz90_1 := blk_frozen BK206.out 1
               have hnb91 := NB200_191.out
               have hnc91 := NB191_200.out
               have hcz92_0 := cz BK200.out 0 (.bool false)
               have hcz92_1 := cz BK200.out 1 (.bool false)
               have hcz92_2 := cz BK200.out 2 (.slice Ao23 t194.length co23)
               have hcz92_3 := cz BK200.out 3 (.string (⟨#[]⟩ : ByteArray))
               have hcz92_4 := cz BK200.out 4 (.string (⟨#[]⟩ : ByteArray))
               have hfz92_0 := blk_frozen BK200.out 0
               have hfz92_1 := blk_frozen BK200.out 1
               have hfz92_2 := blk_frozen BK200.out 2
               have hfz92_3 := blk_frozen BK200.out 3
               have hfz92_4 := blk_frozen BK200.out 4
               have hcz93_0 := cz BK191.out 0 (.bool false)
               have hcz93_1 := cz BK191.out 1 (.bool false)
               have hcz93_2 := cz BK191.out 2 (.slice none 0 0)
               have hcz93_3 := cz BK191.out 3 (.string (⟨#[]⟩ : ByteArray))
               have hcz93_4 := cz BK191.out 4 (.string (⟨#[]⟩ : ByteArray))
               have hfz93_0 := blk_frozen BK191.out 0
               have hfz93_1 := blk_frozen BK191.out 1
               have hfz93_2 := blk_frozen BK191.out 2
               have hfz93_3 := blk_frozen BK191.out 3
               have hfz93_4 := blk_frozen BK191.out 4
               go_wp2
               refine bodyPost_ret (results_ctt rfl _ _ gb191 26 #[.bool false, .bool false, .slice none 0 0, .string (⟨#[]⟩ : ByteArray), .string (⟨#[]⟩ : ByteArray)] (0, 0) _ rfl (by (with_reducible repeat (first | refine blk_drewN ?_ _ | refine blk_drew ?_ | refine blk_alloc ?_ _)); refine blk_put (cs := #[.bool false, .bool false, .slice none 0 0, .string (⟨#[]⟩ : ByteArray), .string (⟨#[]⟩ : ByteArray)]) ?_ 4 _ rfl; (with_reducible repeat (first | refine blk_drewN ?_ _ | refine blk_drew ?_ | refine blk_alloc ?_ _)); refine blk_put (cs := #[.bool false, .bool false, .slice none 0 0, .string (⟨#[]⟩ : ByteArray), .string (⟨#[]⟩ : ByteArray)]) ?_ 3 _ rfl; (with_reducible repeat (first | refine blk_drewN ?_ _ | refine blk_drew ?_ | refine blk_alloc ?_ _)); refine blk_put (cs := #[.bool false, .bool false, .slice none 0 0, .string (⟨#[]⟩ : ByteArray), .string (⟨#[]⟩ : ByteArray)]) ?_ 2 _ rfl; (with_reducible repeat (first | refine blk_drewN ?_ _ | refine blk_drew ?_ | refine blk_alloc ?_ _)); refine blk_put (cs := #[.bool false, .bool false, .slice none 0 0, .string (⟨#[]⟩ : ByteArray), .string (⟨#[]⟩ : ByteArray)]) ?_ 1 _ rfl; (with_reducible repeat (first | refine blk_drewN ?_ _ | refine blk_drew ?_ | refine blk_alloc ?_ _)); refine blk_put (cs := #[.bool false, .bool false, .slice none 0 0, .string (⟨#[]⟩ : ByteArray), .string (⟨#[]⟩ : ByteArray)]) ?_ 0 _ rfl; (with_reducible repeat (first | refine blk_drewN ?_ _ | refine blk_drew ?_ | refine blk_alloc ?_ _)); refine blk_far ?_ NB191_200.out _; (with_reducible repeat (first | refine blk_drewN ?_ _ | refine blk_drew ?_ | refine blk_alloc ?_ _)); refine blk_far ?_ NB191_200.out _; (with_reducible repeat (first | refine blk_drewN ?_ _ | refine blk_drew ?_ | refine blk_alloc ?_ _)); exact BK191.out) Tryz.underlying26 rfl kf) rfl ?_
               exact ⟨_, by first | rfl | (simp [errW_none, errW_some] <;> rfl) | (simp only [← hji16, ← hji73]; first | rfl | (simp [errW_none, errW_some] <;> rfl)) | (simp [*, errW_none, errW_some] <;> rfl), by first | exact Kd.R_nil _ _ _ _ _ | exact Kd.N_nil _ _ _ _ _ | exact Kd.V_nil _ _ _ _ _ | exact Kd.Q_nil _ _ _ _ _ | exact Kd.S_nil _ _ _ _ _, bl⟩
 ·replace c3 := Bool.eq_false_iff.mpr c3
  subst c3
  replace H : (some (false, false, ([] : List ByteArray), (⟨#[]⟩ : ByteArray), (⟨#[]⟩ : ByteArray), (⟨#[]⟩ : ByteArray), 5)) = some (r1, r2, r3, r4, r5, r6, r7) := by rw [if_neg (show ¬ (false = true) by decide)] at H; exact H
  simp only [Option.some.injEq, Prod.mk.injEq] at H
  obtain ⟨rfl, rfl, rfl, rfl, rfl, rfl, rfl⟩ := H
  go_enter Tryz.func13, Tryz.ntmps13
  go_wp2_with (first | ((with_reducible refine gate_dst (N := 2) rfl ?_); (try (refine gate_guard (by rfl) ?_; dsimp only)); refine box_event ?hg (N := 2) ?hd (cs := #[.bool false, .bool false, .slice none 0 0, .string (⟨#[]⟩ : ByteArray), .string (⟨#[]⟩ : ByteArray)]) (t := 26) ?hr ?_; (case hd => rfl); (case hg => rfl); (case hr => first | (go_simp; done) | (go_simp; rfl)); intro gb191 hg w94 hbox hb; have BK191 := Aside0.mk (hbox); have GW191 := Aside0.mk (gz hg : w.heap.size ≤ gb191); have GE191 := Aside0.mk (gz hg : w.heap.size ≤ gb191); replace HB := Aside0.mk (below_step bl hb); clear hb hbox hg) | ((with_reducible refine gate_callee (f := 30) rfl ?_); refine goesL_ (some 18) rfl rfl Tryz.func30 kf rfl #[.string a0, .string (⟨#[60]⟩ : ByteArray)] rfl ml ?_; (with_reducible refine (strings_CutPrefix.calls a0 (⟨#[60]⟩ : ByteArray) t192 false _ A2.out).mono ?_); rintro e w' ⟨rfl, ⟨nd, rfl⟩⟩; refine ⟨_, rfl, ?_⟩; (try (rw [drewN_self w94]; generalize hq_ : World.drewN w94 _ = w94; have n0_ : Aside0 (w94.heap[gb191]? = some (.cells #[.bool false, .bool false, .slice none 0 0, .string (⟨#[]⟩ : ByteArray), .string (⟨#[]⟩ : ByteArray)] 26 (0, 0))) := ⟨by rw [← hq_]; exact (bk BK191.out)⟩; have n1_ : Aside0 (Below w.heap.size w w94) := ⟨by rw [← hq_]; exact bl⟩; clear BK191 HB hq_; have BK191 := n0_; have HB := n1_; clear n0_ n1_)); have hcz95_0 := cz BK191.out 0 (.bool false); have hcz95_1 := cz BK191.out 1 (.bool false); have hcz95_2 := cz BK191.out 2 (.slice none 0 0); have hcz95_3 := cz BK191.out 3 (.string (⟨#[]⟩ : ByteArray)); have hcz95_4 := cz BK191.out 4 (.string (⟨#[]⟩ : ByteArray)); have hfz95_0 := blk_frozen BK191.out 0; have hfz95_1 := blk_frozen BK191.out 1; have hfz95_2 := blk_frozen BK191.out 2; have hfz95_3 := blk_frozen BK191.out 3; have hfz95_4 := blk_frozen BK191.out 4))
  refine bodyPost_ret (results_ctt rfl _ _ gb191 26 #[.bool false, .bool false, .slice none 0 0, .string (⟨#[]⟩ : ByteArray), .string (⟨#[]⟩ : ByteArray)] (0, 0) _ rfl (by (with_reducible repeat (first | refine blk_drewN ?_ _ | refine blk_drew ?_ | refine blk_alloc ?_ _)); refine blk_put (cs := #[.bool false, .bool false, .slice none 0 0, .string (⟨#[]⟩ : ByteArray), .string (⟨#[]⟩ : ByteArray)]) ?_ 4 _ rfl; (with_reducible repeat (first | refine blk_drewN ?_ _ | refine blk_drew ?_ | refine blk_alloc ?_ _)); refine blk_put (cs := #[.bool false, .bool false, .slice none 0 0, .string (⟨#[]⟩ : ByteArray), .string (⟨#[]⟩ : ByteArray)]) ?_ 3 _ rfl; (with_reducible repeat (first | refine blk_drewN ?_ _ | refine blk_drew ?_ | refine blk_alloc ?_ _)); refine blk_put (cs := #[.bool false, .bool false, .slice none 0 0, .string (⟨#[]⟩ : ByteArray), .string (⟨#[]⟩ : ByteArray)]) ?_ 2 _ rfl; (with_reducible repeat (first | refine blk_drewN ?_ _ | refine blk_drew ?_ | refine blk_alloc ?_ _)); refine blk_put (cs := #[.bool false, .bool false, .slice none 0 0, .string (⟨#[]⟩ : ByteArray), .string (⟨#[]⟩ : ByteArray)]) ?_ 1 _ rfl; (with_reducible repeat (first | refine blk_drewN ?_ _ | refine blk_drew ?_ | refine blk_alloc ?_ _)); refine blk_put (cs := #[.bool false, .bool false, .slice none 0 0, .string (⟨#[]⟩ : ByteArray), .string (⟨#[]⟩ : ByteArray)]) ?_ 0 _ rfl; (with_reducible repeat (first | refine blk_drewN ?_ _ | refine blk_drew ?_ | refine blk_alloc ?_ _)); exact BK191.out) Tryz.underlying26 rfl kf) rfl ?_
  exact ⟨_, by first | rfl | (simp [errW_none, errW_some] <;> rfl) | (simp [*, errW_none, errW_some] <;> rfl), by first | exact Kd.R_nil _ _ _ _ _ | exact Kd.N_nil _ _ _ _ _ | exact Kd.V_nil _ _ _ _ _ | exact Kd.Q_nil _ _ _ _ _ | exact Kd.S_nil _ _ _ _ _, bl⟩

end Go.Proofs.YtgelfnjicglmbaaGreatDoor.Q
end
section
namespace Go.Proofs.YtgelfnjicglmbaaGreatDoor.Q

theorem eqA24 (d : Nat) (w : World) (x0 y0 : ByteArray) (x1 y1 : ByteArray) :
    (Op.equalIn (d + 2) 24 (.agg #[.string x0, .string x1]) (.agg #[.string y0, .string y1])).run Tryz.prog w = .ok (x0.toList == y0.toList && (x1.toList == y1.toList)) w := by
  refine eqA_of Tryz.underlying24 kf ?_
  refine eqf_cons (by rfl) (by go_simp; rfl) (by go_simp; rfl) (by go_simp) ?_
  exact eqf_last (by rfl) (by go_simp; rfl) (by go_simp; rfl) (by go_simp)
end Go.Proofs.YtgelfnjicglmbaaGreatDoor.Q
end
section
namespace Go.Proofs.YtgelfnjicglmbaaGreatDoor.Q

theorem eqA29 (d : Nat) (w : World) (x0 y0 : ByteArray) (x1 y1 : ByteArray) :
    (Op.equalIn (d + 2) 29 (.agg #[.string x0, .string x1]) (.agg #[.string y0, .string y1])).run Tryz.prog w = .ok (x0.toList == y0.toList && (x1.toList == y1.toList)) w := by
  refine eqA_of Tryz.underlying29 kf ?_
  refine eqf_cons (by rfl) (by go_simp; rfl) (by go_simp; rfl) (by go_simp) ?_
  exact eqf_last (by rfl) (by go_simp; rfl) (by go_simp; rfl) (by go_simp)
end Go.Proofs.YtgelfnjicglmbaaGreatDoor.Q
end
section
namespace Go.Proofs.YtgelfnjicglmbaaGreatDoor.Q

/-! ### path_letter: function 72 -/
def path_letter.f (a0 : Int) : Option (Bool) := if a0 ≥ 97 then (if a0 ≤ 122 then (some true) else (if a0 ≥ 65 then (if a0 ≤ 90 then (some true) else (if a0 ≥ 48 then (if a0 ≤ 57 then (some true) else (some (a0 == 45))) else (some (a0 == 45)))) else (if a0 ≥ 48 then (if a0 ≤ 57 then (some true) else (some (a0 == 45))) else (some (a0 == 45))))) else (if a0 ≥ 65 then (if a0 ≤ 90 then (some true) else (if a0 ≥ 48 then (if a0 ≤ 57 then (some true) else (some (a0 == 45))) else (some (a0 == 45)))) else (if a0 ≥ 48 then (if a0 ≤ 57 then (some true) else (some (a0 == 45))) else (some (a0 == 45))))
theorem path_letter.calls (a0 : Int) (r : Bool) (w : World) (h : path_letter.f a0 = some r) :
  Calls Tryz.prog 72 #[.int .u8 a0] w fun e w' => e = .returned (.bool r) ∧ Drawn0 w w' := by
 have H : (if a0 ≥ 97 then (if a0 ≤ 122 then (some true) else (if a0 ≥ 65 then (if a0 ≤ 90 then (some true) else (if a0 ≥ 48 then (if a0 ≤ 57 then (some true) else (some (a0 == 45))) else (some (a0 == 45)))) else (if a0 ≥ 48 then (if a0 ≤ 57 then (some true) else (some (a0 == 45))) else (some (a0 == 45))))) else (if a0 ≥ 65 then (if a0 ≤ 90 then (some true) else (if a0 ≥ 48 then (if a0 ≤ 57 then (some true) else (some (a0 == 45))) else (some (a0 == 45)))) else (if a0 ≥ 48 then (if a0 ≤ 57 then (some true) else (some (a0 == 45))) else (some (a0 == 45))))) = some r := h
 clear h
 by_cases c2 : a0 ≥ 97
 ·rw [if_pos c2] at H
  have c2b0 : decide (97 ≤ a0) = true := decide_eq_true c2
  clear c2
  by_cases c3 : a0 ≤ 122
  ·rw [if_pos c3] at H
   have c3b0 : decide (a0 ≤ 122) = true := decide_eq_true c3
   clear c3
   obtain rfl := Option.some.inj H
   go_enter Tryz.func72, Tryz.ntmps72
   go_wp2
   go_ret
   exact ⟨by first | rfl | (simp [bneNil]; done) | (simp; done) | (simp [*]; done), dr⟩
  ·rw [if_neg c3] at H
   have c3b0 : decide (a0 ≤ 122) = false := decide_eq_false c3
   clear c3
   by_cases c4 : a0 ≥ 65
   ·rw [if_pos c4] at H
    have c4b0 : decide (65 ≤ a0) = true := decide_eq_true c4
    clear c4
    by_cases c5 : a0 ≤ 90
    ·rw [if_pos c5] at H
     have c5b0 : decide (a0 ≤ 90) = true := decide_eq_true c5
     clear c5
     obtain rfl := Option.some.inj H
     go_enter Tryz.func72, Tryz.ntmps72
     go_wp2
     go_ret
     exact ⟨by first | rfl | (simp [bneNil]; done) | (simp; done) | (simp [*]; done), dr⟩
    ·rw [if_neg c5] at H
     have c5b0 : decide (a0 ≤ 90) = false := decide_eq_false c5
     clear c5
     by_cases c6 : a0 ≥ 48
     ·rw [if_pos c6] at H
      have c6b0 : decide (48 ≤ a0) = true := decide_eq_true c6
      clear c6
      by_cases c7 : a0 ≤ 57
      ·rw [if_pos c7] at H
       have c7b0 : decide (a0 ≤ 57) = true := decide_eq_true c7
       clear c7
       obtain rfl := Option.some.inj H
       go_enter Tryz.func72, Tryz.ntmps72
       go_wp2
       go_ret
       exact ⟨by first | rfl | (simp [bneNil]; done) | (simp; done) | (simp [*]; done), dr⟩
      ·rw [if_neg c7] at H
       have c7b0 : decide (a0 ≤ 57) = false := decide_eq_false c7
       clear c7
       obtain rfl := Option.some.inj H
       go_enter Tryz.func72, Tryz.ntmps72
       go_wp2
       go_ret
       exact ⟨by first | rfl | (simp [bneNil]; done) | (simp; done) | (simp [*]; done), dr⟩
     ·rw [if_neg c6] at H
      have c6b0 : decide (48 ≤ a0) = false := decide_eq_false c6
      clear c6
      obtain rfl := Option.some.inj H
      go_enter Tryz.func72, Tryz.ntmps72
      go_wp2
      go_ret
      exact ⟨by first | rfl | (simp [bneNil]; done) | (simp; done) | (simp [*]; done), dr⟩
   ·rw [if_neg c4] at H
    have c4b0 : decide (65 ≤ a0) = false := decide_eq_false c4
    clear c4
    by_cases c8 : a0 ≥ 48
    ·rw [if_pos c8] at H
     have c8b0 : decide (48 ≤ a0) = true := decide_eq_true c8
     clear c8
     by_cases c9 : a0 ≤ 57
     ·rw [if_pos c9] at H
      have c9b0 : decide (a0 ≤ 57) = true := decide_eq_true c9
      clear c9
      obtain rfl := Option.some.inj H
      go_enter Tryz.func72, Tryz.ntmps72
      go_wp2
      go_ret
      exact ⟨by first | rfl | (simp [bneNil]; done) | (simp; done) | (simp [*]; done), dr⟩
     ·rw [if_neg c9] at H
      have c9b0 : decide (a0 ≤ 57) = false := decide_eq_false c9
      clear c9
      obtain rfl := Option.some.inj H
      go_enter Tryz.func72, Tryz.ntmps72
      go_wp2
      go_ret
      exact ⟨by first | rfl | (simp [bneNil]; done) | (simp; done) | (simp [*]; done), dr⟩
    ·rw [if_neg c8] at H
     have c8b0 : decide (48 ≤ a0) = false := decide_eq_false c8
     clear c8
     obtain rfl := Option.some.inj H
     go_enter Tryz.func72, Tryz.ntmps72
     go_wp2
     go_ret
     exact ⟨by first | rfl | (simp [bneNil]; done) | (simp; done) | (simp [*]; done), dr⟩
 ·rw [if_neg c2] at H
  have c2b0 : decide (97 ≤ a0) = false := decide_eq_false c2
  clear c2
  by_cases c10 : a0 ≥ 65
  ·rw [if_pos c10] at H
   have c10b0 : decide (65 ≤ a0) = true := decide_eq_true c10
   clear c10
   by_cases c11 : a0 ≤ 90
   ·rw [if_pos c11] at H
    have c11b0 : decide (a0 ≤ 90) = true := decide_eq_true c11
    clear c11
    obtain rfl := Option.some.inj H
    go_enter Tryz.func72, Tryz.ntmps72
    go_wp2
    go_ret
    exact ⟨by first | rfl | (simp [bneNil]; done) | (simp; done) | (simp [*]; done), dr⟩
   ·rw [if_neg c11] at H
    have c11b0 : decide (a0 ≤ 90) = false := decide_eq_false c11
    clear c11
    by_cases c12 : a0 ≥ 48
    ·rw [if_pos c12] at H
     have c12b0 : decide (48 ≤ a0) = true := decide_eq_true c12
     clear c12
     by_cases c13 : a0 ≤ 57
     ·rw [if_pos c13] at H
      have c13b0 : decide (a0 ≤ 57) = true := decide_eq_true c13
      clear c13
      obtain rfl := Option.some.inj H
      go_enter Tryz.func72, Tryz.ntmps72
      go_wp2
      go_ret
      exact ⟨by first | rfl | (simp [bneNil]; done) | (simp; done) | (simp [*]; done), dr⟩
     ·rw [if_neg c13] at H
      have c13b0 : decide (a0 ≤ 57) = false := decide_eq_false c13
      clear c13
      obtain rfl := Option.some.inj H
      go_enter Tryz.func72, Tryz.ntmps72
      go_wp2
      go_ret
      exact ⟨by first | rfl | (simp [bneNil]; done) | (simp; done) | (simp [*]; done), dr⟩
    ·rw [if_neg c12] at H
     have c12b0 : decide (48 ≤ a0) = false := decide_eq_false c12
     clear c12
     obtain rfl := Option.some.inj H
     go_enter Tryz.func72, Tryz.ntmps72
     go_wp2
     go_ret
     exact ⟨by first | rfl | (simp [bneNil]; done) | (simp; done) | (simp [*]; done), dr⟩
  ·rw [if_neg c10] at H
   have c10b0 : decide (65 ≤ a0) = false := decide_eq_false c10
   clear c10
   by_cases c14 : a0 ≥ 48
   ·rw [if_pos c14] at H
    have c14b0 : decide (48 ≤ a0) = true := decide_eq_true c14
    clear c14
    by_cases c15 : a0 ≤ 57
    ·rw [if_pos c15] at H
     have c15b0 : decide (a0 ≤ 57) = true := decide_eq_true c15
     clear c15
     obtain rfl := Option.some.inj H
     go_enter Tryz.func72, Tryz.ntmps72
     go_wp2
     go_ret
     exact ⟨by first | rfl | (simp [bneNil]; done) | (simp; done) | (simp [*]; done), dr⟩
    ·rw [if_neg c15] at H
     have c15b0 : decide (a0 ≤ 57) = false := decide_eq_false c15
     clear c15
     obtain rfl := Option.some.inj H
     go_enter Tryz.func72, Tryz.ntmps72
     go_wp2
     go_ret
     exact ⟨by first | rfl | (simp [bneNil]; done) | (simp; done) | (simp [*]; done), dr⟩
   ·rw [if_neg c14] at H
    have c14b0 : decide (48 ≤ a0) = false := decide_eq_false c14
    clear c14
    obtain rfl := Option.some.inj H
    go_enter Tryz.func72, Tryz.ntmps72
    go_wp2
    go_ret
    exact ⟨by first | rfl | (simp [bneNil]; done) | (simp; done) | (simp [*]; done), dr⟩

/-! ### path_parts_1: function 71 -/
def path_parts_1.f (a0 : Int) : Option (Bool) := (path_letter.f a0).bind fun t207 => (some (!t207))
theorem path_parts_1.calls (a0 : Int) (r : Bool) (w : World) (h : path_parts_1.f a0 = some r) :
  Calls Tryz.prog 71 #[.int .u8 a0] w fun e w' => e = .returned (.bool r) ∧ Drawn0 w w' := by
 have H : ((path_letter.f a0).bind fun t207 => (some (!t207))) = some r := h
 clear h
 obtain ⟨t207, A20, H⟩ := Option.bind_eq_some_iff.mp H
 replace H : (some (!t207)) = some r := H
 have A2 := Aside0.mk A20
 clear A20
 obtain rfl := Option.some.inj H
 go_enter Tryz.func71, Tryz.ntmps71
 go_wp2_with (first | ((with_reducible refine gate_callee (f := 72) rfl ?_); refine goesL_ (some 4) rfl rfl Tryz.func72 kf rfl #[.int .u8 a0] rfl ml ?_; (with_reducible refine (path_letter.calls a0 t207 _ A2.out).mono ?_); rintro e w' ⟨rfl, ⟨nd, rfl⟩⟩; refine ⟨_, rfl, ?_⟩))
 go_ret
 exact ⟨by first | rfl | (simp [bneNil]; done) | (simp; done) | (simp [*]; done), dr⟩

/-! ### path_parts_2: function 73 -/
def path_parts_2.f (a0 : Int) : Option (Bool) := if a0 ≤ 32 then (some true) else (if a0 > 126 then (some true) else (some (a0 == 61)))
theorem path_parts_2.calls (a0 : Int) (r : Bool) (w : World) (h : path_parts_2.f a0 = some r) :
  Calls Tryz.prog 73 #[.int .u8 a0] w fun e w' => e = .returned (.bool r) ∧ Drawn0 w w' := by
 have H : (if a0 ≤ 32 then (some true) else (if a0 > 126 then (some true) else (some (a0 == 61)))) = some r := h
 clear h
 by_cases c2 : a0 ≤ 32
 ·rw [if_pos c2] at H
  have c2b0 : decide (a0 ≤ 32) = true := decide_eq_true c2
  clear c2
  obtain rfl := Option.some.inj H
  go_enter Tryz.func73, Tryz.ntmps73
  go_wp2
  go_ret
  exact ⟨by first | rfl | (simp [bneNil]; done) | (simp; done) | (simp [*]; done), dr⟩
 ·rw [if_neg c2] at H
  have c2b0 : decide (a0 ≤ 32) = false := decide_eq_false c2
  clear c2
  by_cases c3 : a0 > 126
  ·rw [if_pos c3] at H
   have c3b0 : decide (126 < a0) = true := decide_eq_true c3
   clear c3
   obtain rfl := Option.some.inj H
   go_enter Tryz.func73, Tryz.ntmps73
   go_wp2
   go_ret
   exact ⟨by first | rfl | (simp [bneNil]; done) | (simp; done) | (simp [*]; done), dr⟩
  ·rw [if_neg c3] at H
   have c3b0 : decide (126 < a0) = false := decide_eq_false c3
   clear c3
   obtain rfl := Option.some.inj H
   go_enter Tryz.func73, Tryz.ntmps73
   go_wp2
   go_ret
   exact ⟨by first | rfl | (simp [bneNil]; done) | (simp; done) | (simp [*]; done), dr⟩

/-! ### slices_ContainsFunc_byte_byte__path_parts_1: function 74 with function 71 (by hand) -/
def slices_ContainsFunc_byte_byte__path_parts_1.f (l0 : List Int) : Option Bool := anyF (fun x => path_parts_1.f x) l0
theorem slices_ContainsFunc_byte_byte__path_parts_1.idx (l : List Int) (r : Bool) (hl : l.length ≤ 9223372036854775807) (A : Option Addr) (c : Nat) (w : World) (hC : ReadsOf (Value.int .u8) (0 : Int) w A l.length l) (h : slices_ContainsFunc_byte_byte__path_parts_1.f l = some r) :
    Calls Tryz.prog 99 #[.slice A l.length c, .func (.func 71) #[] #[]] w (IdxPost r w) := by
  have HC := Lib.hid hC
  have h' : Aside0 (anyF (fun x => path_parts_1.f x) (l.drop 0) = some r) := ⟨h⟩
  clear hC h
  go_enter Tryz.func99, Tryz.ntmps99
  go_wp2
  go_loopw [8] (fun v8 w' => ∃ j : Nat, v8 = .int .i64 j ∧ j ≤ l.length ∧ Aside0 (anyF (fun x => path_parts_1.f x) (l.drop j) = some r) ∧ Aside0 (Below w.heap.size w w')) (fun v8 _ => l.length - (intOf v8).toNat)
  case atStart => exact ⟨0, rfl, Nat.zero_le _, h', ⟨Below.refl _ _⟩⟩
  case round =>
    obtain ⟨j, rfl, hj, Hall, HB⟩ := hrel
    by_cases hlt : j < l.length
    · obtain ⟨ad, hA, hcell⟩ := (HC.out.below HB.out).at_ (j : Int) (by omega) (by omega)
      rw [Int.toNat_natCast] at hcell
      have ex : rdOf (0 : Int) l (j : Int) = l[j]'hlt := by simp [rdOf, hlt]
      rw [ex] at hcell
      clear ex
      have hd := Hall.out
      rw [List.drop_eq_getElem_cons hlt] at hd
      obtain ⟨b, hb, hrest⟩ := anyF_cons hd
      have Hb := Lib.hid hb
      clear hb hd
      obtain ⟨x, hx⟩ : ∃ x : Int, x = l[j]'hlt := ⟨_, rfl⟩
      rw [← hx] at hcell Hb
      clear hx
      rcases hrest with ⟨rfl, hr⟩ | ⟨rfl, hr⟩
      · have Hr := Lib.hid hr
        clear hr
        subst hA
        go_wp2_with (refine ((path_parts_1.calls x true _ Hb.out)).mono ?_; rintro e w1 ⟨rfl, hd1⟩; have HB1 := Lib.hid hd1.below; clear hd1)
        go_ret
        refine ⟨(j : Int), rfl, ?_, HB.out.trans (HB1.out.mono HB.out.size)⟩
        rw [Hr.out]
        exact decide_eq_true (by omega)
      · have Hr := Aside0.mk hr
        clear hr
        subst hA
        go_wp2_with (refine ((path_parts_1.calls x false _ Hb.out)).mono ?_; rintro e w1 ⟨rfl, hd1⟩; have HB1 := Lib.hid hd1.below; clear hd1)
        go_roundw
        case rel => exact ⟨j + 1, by go_num, hlt, Hr, ⟨HB.out.trans (HB1.out.mono HB.out.size)⟩⟩
        case measure => simp [intOf]; omega
    · go_wp2
      go_ret
      have hd := Hall.out
      rw [List.drop_of_length_le (by omega)] at hd
      have hr : false = r := Option.some.inj hd
      refine ⟨-1, rfl, ?_, HB.out⟩
      rw [← hr]; rfl
theorem slices_ContainsFunc_byte_byte__path_parts_1.calls (A0 : Option Addr) (c0 : Nat) (l0 : List Int) (r : Bool) (w : World) (hr0 : Kd.C (Kd.int .u8) w A0 l0.length l0) (hc0 : l0.length ≤ c0) (h : slices_ContainsFunc_byte_byte__path_parts_1.f l0 = some r) :
    Calls Tryz.prog 74 #[.slice A0 l0.length c0, .func (.func 71) #[] #[]] w fun e w' => e = .returned (.bool r) ∧ Below w.heap.size w w' := by
  have hrd : ReadsOf (Value.int .u8) (0 : Int) w A0 l0.length l0 := Kd.reads_of_C hr0
  have HI := Lib.hid (slices_ContainsFunc_byte_byte__path_parts_1.idx l0 r hrd.2.1 A0 c0 w hrd h)
  clear hrd hr0 h
  go_enter Tryz.func74, Tryz.ntmps74
  go_wp2_with (go_at_call 99; refine HI.out.mono ?_; rintro e w1 ⟨i, rfl, hi, hb⟩; have HB1 := Lib.hid hb; clear hb; have Hi := Lib.hid hi; clear hi)
  go_ret
  exact ⟨by have hi := Hi.out; simp [hi], HB1.out⟩


/-! ### slices_ContainsFunc_byte_byte__path_parts_2: function 74 with function 73 (by hand) -/
def slices_ContainsFunc_byte_byte__path_parts_2.f (l0 : List Int) : Option Bool := anyF (fun x => path_parts_2.f x) l0
theorem slices_ContainsFunc_byte_byte__path_parts_2.idx (l : List Int) (r : Bool) (hl : l.length ≤ 9223372036854775807) (A : Option Addr) (c : Nat) (w : World) (hC : ReadsOf (Value.int .u8) (0 : Int) w A l.length l) (h : slices_ContainsFunc_byte_byte__path_parts_2.f l = some r) :
    Calls Tryz.prog 99 #[.slice A l.length c, .func (.func 73) #[] #[]] w (IdxPost r w) := by
  have HC := Lib.hid hC
  have h' : Aside0 (anyF (fun x => path_parts_2.f x) (l.drop 0) = some r) := ⟨h⟩
  clear hC h
  go_enter Tryz.func99, Tryz.ntmps99
  go_wp2
  go_loopw [8] (fun v8 w' => ∃ j : Nat, v8 = .int .i64 j ∧ j ≤ l.length ∧ Aside0 (anyF (fun x => path_parts_2.f x) (l.drop j) = some r) ∧ Aside0 (Below w.heap.size w w')) (fun v8 _ => l.length - (intOf v8).toNat)
  case atStart => exact ⟨0, rfl, Nat.zero_le _, h', ⟨Below.refl _ _⟩⟩
  case round =>
    obtain ⟨j, rfl, hj, Hall, HB⟩ := hrel
    by_cases hlt : j < l.length
    · obtain ⟨ad, hA, hcell⟩ := (HC.out.below HB.out).at_ (j : Int) (by omega) (by omega)
      rw [Int.toNat_natCast] at hcell
      have ex : rdOf (0 : Int) l (j : Int) = l[j]'hlt := by simp [rdOf, hlt]
      rw [ex] at hcell
      clear ex
      have hd := Hall.out
      rw [List.drop_eq_getElem_cons hlt] at hd
      obtain ⟨b, hb, hrest⟩ := anyF_cons hd
      have Hb := Lib.hid hb
      clear hb hd
      obtain ⟨x, hx⟩ : ∃ x : Int, x = l[j]'hlt := ⟨_, rfl⟩
      rw [← hx] at hcell Hb
      clear hx
      rcases hrest with ⟨rfl, hr⟩ | ⟨rfl, hr⟩
      · have Hr := Lib.hid hr
        clear hr
        subst hA
        go_wp2_with (refine ((path_parts_2.calls x true _ Hb.out)).mono ?_; rintro e w1 ⟨rfl, hd1⟩; have HB1 := Lib.hid hd1.below; clear hd1)
        go_ret
        refine ⟨(j : Int), rfl, ?_, HB.out.trans (HB1.out.mono HB.out.size)⟩
        rw [Hr.out]
        exact decide_eq_true (by omega)
      · have Hr := Aside0.mk hr
        clear hr
        subst hA
        go_wp2_with (refine ((path_parts_2.calls x false _ Hb.out)).mono ?_; rintro e w1 ⟨rfl, hd1⟩; have HB1 := Lib.hid hd1.below; clear hd1)
        go_roundw
        case rel => exact ⟨j + 1, by go_num, hlt, Hr, ⟨HB.out.trans (HB1.out.mono HB.out.size)⟩⟩
        case measure => simp [intOf]; omega
    · go_wp2
      go_ret
      have hd := Hall.out
      rw [List.drop_of_length_le (by omega)] at hd
      have hr : false = r := Option.some.inj hd
      refine ⟨-1, rfl, ?_, HB.out⟩
      rw [← hr]; rfl
theorem slices_ContainsFunc_byte_byte__path_parts_2.calls (A0 : Option Addr) (c0 : Nat) (l0 : List Int) (r : Bool) (w : World) (hr0 : Kd.C (Kd.int .u8) w A0 l0.length l0) (hc0 : l0.length ≤ c0) (h : slices_ContainsFunc_byte_byte__path_parts_2.f l0 = some r) :
    Calls Tryz.prog 74 #[.slice A0 l0.length c0, .func (.func 73) #[] #[]] w fun e w' => e = .returned (.bool r) ∧ Below w.heap.size w w' := by
  have hrd : ReadsOf (Value.int .u8) (0 : Int) w A0 l0.length l0 := Kd.reads_of_C hr0
  have HI := Lib.hid (slices_ContainsFunc_byte_byte__path_parts_2.idx l0 r hrd.2.1 A0 c0 w hrd h)
  clear hrd hr0 h
  go_enter Tryz.func74, Tryz.ntmps74
  go_wp2_with (go_at_call 99; refine HI.out.mono ?_; rintro e w1 ⟨i, rfl, hi, hb⟩; have HB1 := Lib.hid hb; clear hb; have Hi := Lib.hid hi; clear hi)
  go_ret
  exact ⟨by have hi := Hi.out; simp [hi], HB1.out⟩


/-! ### path_parts: function 44 -/
def path_parts.f (a0 : ByteArray) : Option (ByteArray × ByteArray × Bool × Bool) := (strings_Cut.f a0 (⟨#[61]⟩ : ByteArray)).bind fun bt208 => (if bt208.1.toList = ([] : List UInt8) then ((text_Lower.f bt208.1).bind fun t211 => (some (t211, bt208.2.1, bt208.2.2, false))) else (if bt208.1.size ≤ 9223372036854775807 then ((slices_ContainsFunc_byte_byte__path_parts_1.f (Kd.numsOf bt208.1)).bind fun t215 => (if t215 = true then ((text_Lower.f bt208.1).bind fun t216 => (some (t216, bt208.2.1, bt208.2.2, false))) else (if bt208.2.2 = true then (if bt208.2.1.toList = ([] : List UInt8) then ((text_Lower.f bt208.1).bind fun t217 => (some (t217, bt208.2.1, bt208.2.2, false))) else (if bt208.2.1.size ≤ 9223372036854775807 then ((slices_ContainsFunc_byte_byte__path_parts_2.f (Kd.numsOf bt208.2.1)).bind fun t221 => ((text_Lower.f bt208.1).bind fun t222 => (some (t222, bt208.2.1, bt208.2.2, !t221)))) else (none))) else (if bt208.2.1.size ≤ 9223372036854775807 then ((slices_ContainsFunc_byte_byte__path_parts_2.f (Kd.numsOf bt208.2.1)).bind fun t226 => ((text_Lower.f bt208.1).bind fun t227 => (some (t227, bt208.2.1, bt208.2.2, !t226)))) else (none))))) else (none)))
theorem path_parts.calls (a0 : ByteArray) (r1 : ByteArray) (r2 : ByteArray) (r3 : Bool) (r4 : Bool) (w : World) (hG : Glob w) (h : path_parts.f a0 = some (r1, r2, r3, r4)) :
  Calls Tryz.prog 44 #[.string a0] w fun e w' => e = .returned (.tuple #[.string r1, .string r2, .bool r3, .bool r4]) ∧ Below w.heap.size w w' := by
 have HB := Aside0.mk (Below.refl w.heap.size w)
 have HG := Aside0.mk hG
 clear hG
 have H : ((strings_Cut.f a0 (⟨#[61]⟩ : ByteArray)).bind fun bt208 => (if bt208.1.toList = ([] : List UInt8) then ((text_Lower.f bt208.1).bind fun t211 => (some (t211, bt208.2.1, bt208.2.2, false))) else (if bt208.1.size ≤ 9223372036854775807 then ((slices_ContainsFunc_byte_byte__path_parts_1.f (Kd.numsOf bt208.1)).bind fun t215 => (if t215 = true then ((text_Lower.f bt208.1).bind fun t216 => (some (t216, bt208.2.1, bt208.2.2, false))) else (if bt208.2.2 = true then (if bt208.2.1.toList = ([] : List UInt8) then ((text_Lower.f bt208.1).bind fun t217 => (some (t217, bt208.2.1, bt208.2.2, false))) else (if bt208.2.1.size ≤ 9223372036854775807 then ((slices_ContainsFunc_byte_byte__path_parts_2.f (Kd.numsOf bt208.2.1)).bind fun t221 => ((text_Lower.f bt208.1).bind fun t222 => (some (t222, bt208.2.1, bt208.2.2, !t221)))) else (none))) else (if bt208.2.1.size ≤ 9223372036854775807 then ((slices_ContainsFunc_byte_byte__path_parts_2.f (Kd.numsOf bt208.2.1)).bind fun t226 => ((text_Lower.f bt208.1).bind fun t227 => (some (t227, bt208.2.1, bt208.2.2, !t226)))) else (none))))) else (none)))) = some (r1, r2, r3, r4) := h
 clear h
 obtain ⟨⟨t208, t209, t210⟩, A20, H⟩ := Option.bind_eq_some_iff.mp H
 replace H : (if t208.toList = ([] : List UInt8) then ((text_Lower.f t208).bind fun t211 => (some (t211, t209, t210, false))) else (if t208.size ≤ 9223372036854775807 then ((slices_ContainsFunc_byte_byte__path_parts_1.f (Kd.numsOf t208)).bind fun t215 => (if t215 = true then ((text_Lower.f t208).bind fun t216 => (some (t216, t209, t210, false))) else (if t210 = true then (if t209.toList = ([] : List UInt8) then ((text_Lower.f t208).bind fun t217 => (some (t217, t209, t210, false))) else (if t209.size ≤ 9223372036854775807 then ((slices_ContainsFunc_byte_byte__path_parts_2.f (Kd.numsOf t209)).bind fun t221 => ((text_Lower.f t208).bind fun t222 => (some (t222, t209, t210, !t221)))) else (none))) else (if t209.size ≤ 9223372036854775807 then ((slices_ContainsFunc_byte_byte__path_parts_2.f (Kd.numsOf t209)).bind fun t226 => ((text_Lower.f t208).bind fun t227 => (some (t227, t209, t210, !t226)))) else (none))))) else (none))) = some (r1, r2, r3, r4) := H
 have A2 := Aside0.mk A20
 clear A20
 by_cases c3 : t208.toList = ([] : List UInt8)
 ·rw [if_pos c3] at H
  have c3b0 : (t208.toList == ([] : List UInt8)) = true := beq_iff_eq.mpr c3
  have c3b1 : (t208.toList != ([] : List UInt8)) = false := bne_eq_false_iff_eq.mpr c3
  clear c3
  obtain ⟨t211, A40, H⟩ := Option.bind_eq_some_iff.mp H
  replace H : (some (t211, t209, t210, false)) = some (r1, r2, r3, r4) := H
  have A4 := Aside0.mk A40
  clear A40
  simp only [Option.some.injEq, Prod.mk.injEq] at H
  obtain ⟨rfl, rfl, rfl, rfl⟩ := H
  go_enter Tryz.func44, Tryz.ntmps44
  go_wp2_with (first | ((with_reducible refine gate_callee (f := 61) rfl ?_); refine goesL_ (some 10) rfl rfl Tryz.func61 kf rfl #[.string a0, .string (⟨#[61]⟩ : ByteArray)] rfl ml ?_; (with_reducible refine (strings_Cut.calls a0 (⟨#[61]⟩ : ByteArray) t208 t209 t210 _ ?side1 A2.out).mono ?_); (case side1 => exact Glob.below HG.out bl); rintro e w' ⟨rfl, ⟨nd, rfl⟩⟩; refine ⟨_, rfl, ?_⟩) | ((with_reducible refine gate_callee (f := 64) rfl ?_); refine goesL_ (some 39) rfl rfl Tryz.func64 kf rfl #[.string t208] rfl ml ?_; (with_reducible refine (text_Lower.calls t208 t211 _ A4.out).mono ?_); rintro e w5 ⟨rfl, hb⟩; refine ⟨_, rfl, ?_⟩; replace HB := Aside0.mk (below_step bl hb); (try clear hb); (try clear hb2); (try clear hk); (try clear hi)))
  refine bodyPost_ret (results_list (rs := [.tmp 2, .tmp 3, .tmp 4, .tmp 5]) rfl (by simp) (.tmp (.tmp (.tmp (.tmp .nil))))) rfl ?_
  exact ⟨rf, bl⟩
 ·rw [if_neg c3] at H
  have c3b0 : (t208.toList == ([] : List UInt8)) = false := beq_eq_false_iff_ne.mpr c3
  have c3b1 : (t208.toList != ([] : List UInt8)) = true := bne_iff_ne.mpr c3
  by_cases c6 : t208.size ≤ 9223372036854775807
  rotate_left
  ·rw [if_neg c6] at H
   exact ab H
  rw [if_pos c6] at H
  have c6b0 := eq_true c6
  have c6b1 : decide (t208.size ≤ 9223372036854775807) = true := decide_eq_true c6
  try have c6b2 : (9223372036854775807 < t208.size) = False := eq_false (Nat.not_lt.2 c6)
  clear c6
  obtain ⟨y212, hy212⟩ : ∃ y_ : List Int, y_ = (Kd.numsOf t208) := ⟨_, rfl⟩
  replace H : ((slices_ContainsFunc_byte_byte__path_parts_1.f y212).bind fun t215 => (if t215 = true then ((text_Lower.f t208).bind fun t216 => (some (t216, t209, t210, false))) else (if t210 = true then (if t209.toList = ([] : List UInt8) then ((text_Lower.f t208).bind fun t217 => (some (t217, t209, t210, false))) else (if t209.size ≤ 9223372036854775807 then ((slices_ContainsFunc_byte_byte__path_parts_2.f (Kd.numsOf t209)).bind fun t221 => ((text_Lower.f t208).bind fun t222 => (some (t222, t209, t210, !t221)))) else (none))) else (if t209.size ≤ 9223372036854775807 then ((slices_ContainsFunc_byte_byte__path_parts_2.f (Kd.numsOf t209)).bind fun t226 => ((text_Lower.f t208).bind fun t227 => (some (t227, t209, t210, !t226)))) else (none))))) = some (r1, r2, r3, r4) := by first | (rw [hy212]; with_reducible exact H) | (have H2_ := (Option.bind_some _ _).symm.trans H; rw [hy212]; with_reducible exact H2_) | (have H2_ := (Option.bind_some _ _).symm.trans H; with_reducible exact H2_) | with_reducible exact H | (rw [hy212]; exact H) | exact H
  have Ny212 := Aside0.mk hy212
  clear hy212
  obtain ⟨t215, A70, H⟩ := Option.bind_eq_some_iff.mp H
  replace H : (if t215 = true then ((text_Lower.f t208).bind fun t216 => (some (t216, t209, t210, false))) else (if t210 = true then (if t209.toList = ([] : List UInt8) then ((text_Lower.f t208).bind fun t217 => (some (t217, t209, t210, false))) else (if t209.size ≤ 9223372036854775807 then ((slices_ContainsFunc_byte_byte__path_parts_2.f (Kd.numsOf t209)).bind fun t221 => ((text_Lower.f t208).bind fun t222 => (some (t222, t209, t210, !t221)))) else (none))) else (if t209.size ≤ 9223372036854775807 then ((slices_ContainsFunc_byte_byte__path_parts_2.f (Kd.numsOf t209)).bind fun t226 => ((text_Lower.f t208).bind fun t227 => (some (t227, t209, t210, !t226)))) else (none)))) = some (r1, r2, r3, r4) := H
  have A7 := Aside0.mk A70
  clear A70
  by_cases c8 : t215 = true
  ·subst c8
   replace H : ((text_Lower.f t208).bind fun t216 => (some (t216, t209, t210, false))) = some (r1, r2, r3, r4) := by rw [if_pos rfl] at H; exact H
   obtain ⟨t216, A90, H⟩ := Option.bind_eq_some_iff.mp H
   replace H : (some (t216, t209, t210, false)) = some (r1, r2, r3, r4) := H
   have A9 := Aside0.mk A90
   clear A90
   simp only [Option.some.injEq, Prod.mk.injEq] at H
   obtain ⟨rfl, rfl, rfl, rfl⟩ := H
   go_enter Tryz.func44, Tryz.ntmps44
   go_wp2_with (first | ((with_reducible refine gate_callee (f := 61) rfl ?_); refine goesL_ (some 10) rfl rfl Tryz.func61 kf rfl #[.string a0, .string (⟨#[61]⟩ : ByteArray)] rfl ml ?_; (with_reducible refine (strings_Cut.calls a0 (⟨#[61]⟩ : ByteArray) t208 t209 t210 _ ?side1 A2.out).mono ?_); (case side1 => exact Glob.below HG.out bl); rintro e w' ⟨rfl, ⟨nd, rfl⟩⟩; refine ⟨_, rfl, ?_⟩) | ((with_reducible refine gate_dst (N := 18) rfl ?_); (try (refine gate_guard (by rfl) ?_; dsimp only)); refine Kd.B_bytes _ 5 rfl (N := 18) rfl 9 55 _ t208 rfl rfl Tryz.underlying9 Tryz.underlying55 Tryz.underlying5 (ok := fun _ => True) trivial (od) (Below.refl _ _) (Nat.le_refl _) ?_; intro v213 w10 ho11 hb hg_ hnew_; clear hg_ hnew_; (first | rw [← Ny212.out] at ho11 | (simp only [Int.reduceToNat] at ho11; rw [← Ny212.out] at ho11)); have HO214 := Aside0.mk (Kd.B_lower ho11 (below_size bl)); replace HB := Aside0.mk (below_step bl hb); clear hb ho11; obtain ⟨Ao12, co12, eo12⟩ := Kd.B_slice HO214.out; subst eo12) | (go_at_call 74; (with_reducible refine (slices_ContainsFunc_byte_byte__path_parts_1.calls _ _ y212 true _ ?side1 ?side2 A7.out).mono ?_); (case side1 => repeat (first | exact (Kd.B_reads' HO214.out).2.2 | (with_reducible refine Kd.C_alloc ?_ _) | (with_reducible refine Kd.C_drewN ?_ _) | (with_reducible refine Kd.C_drew ?_))); (case side2 => exact (Kd.B_reads' HO214.out).2.1); rintro e w13 ⟨rfl, hb⟩; replace HO214 := Aside0.mk (Kd.B_below (by (with_reducible repeat (first | apply Kd.B_alloc | apply Kd.B_drewN | apply Kd.B_drew)); exact HO214.out) hb); replace HB := Aside0.mk (below_step bl hb); (try clear hb); (try clear hb2); (try clear hk); (try clear hi)) | ((with_reducible refine gate_callee (f := 64) rfl ?_); refine goesL_ (some 39) rfl rfl Tryz.func64 kf rfl #[.string t208] rfl ml ?_; (with_reducible refine (text_Lower.calls t208 t216 _ A9.out).mono ?_); rintro e w14 ⟨rfl, hb⟩; refine ⟨_, rfl, ?_⟩; replace HO214 := Aside0.mk (Kd.B_below (by (with_reducible repeat (first | apply Kd.B_alloc | apply Kd.B_drewN | apply Kd.B_drew)); exact HO214.out) hb); replace HB := Aside0.mk (below_step bl hb); (try clear hb); (try clear hb2); (try clear hk); (try clear hi)))
   refine bodyPost_ret (results_list (rs := [.tmp 2, .tmp 3, .tmp 4, .tmp 5]) rfl (by simp) (.tmp (.tmp (.tmp (.tmp .nil))))) rfl ?_
   exact ⟨rf, bl⟩
  ·replace c8 := Bool.eq_false_iff.mpr c8
   subst c8
   replace H : (if t210 = true then (if t209.toList = ([] : List UInt8) then ((text_Lower.f t208).bind fun t217 => (some (t217, t209, t210, false))) else (if t209.size ≤ 9223372036854775807 then ((slices_ContainsFunc_byte_byte__path_parts_2.f (Kd.numsOf t209)).bind fun t221 => ((text_Lower.f t208).bind fun t222 => (some (t222, t209, t210, !t221)))) else (none))) else (if t209.size ≤ 9223372036854775807 then ((slices_ContainsFunc_byte_byte__path_parts_2.f (Kd.numsOf t209)).bind fun t226 => ((text_Lower.f t208).bind fun t227 => (some (t227, t209, t210, !t226)))) else (none))) = some (r1, r2, r3, r4) := by rw [if_neg (show ¬ (false = true) by decide)] at H; exact H
   by_cases c15 : t210 = true
   ·subst c15
    replace H : (if t209.toList = ([] : List UInt8) then ((text_Lower.f t208).bind fun t217 => (some (t217, t209, true, false))) else (if t209.size ≤ 9223372036854775807 then ((slices_ContainsFunc_byte_byte__path_parts_2.f (Kd.numsOf t209)).bind fun t221 => ((text_Lower.f t208).bind fun t222 => (some (t222, t209, true, !t221)))) else (none))) = some (r1, r2, r3, r4) := by rw [if_pos rfl] at H; exact H
    by_cases c16 : t209.toList = ([] : List UInt8)
    ·rw [if_pos c16] at H
     have c16b0 : (t209.toList == ([] : List UInt8)) = true := beq_iff_eq.mpr c16
     have c16b1 : (t209.toList != ([] : List UInt8)) = false := bne_eq_false_iff_eq.mpr c16
     clear c16
     obtain ⟨t217, A170, H⟩ := Option.bind_eq_some_iff.mp H
     replace H : (some (t217, t209, true, false)) = some (r1, r2, r3, r4) := H
     have A17 := Aside0.mk A170
     clear A170
     simp only [Option.some.injEq, Prod.mk.injEq] at H
     obtain ⟨rfl, rfl, rfl, rfl⟩ := H
     go_enter Tryz.func44, Tryz.ntmps44
     go_wp2_with (first | ((with_reducible refine gate_callee (f := 61) rfl ?_); refine goesL_ (some 10) rfl rfl Tryz.func61 kf rfl #[.string a0, .string (⟨#[61]⟩ : ByteArray)] rfl ml ?_; (with_reducible refine (strings_Cut.calls a0 (⟨#[61]⟩ : ByteArray) t208 t209 true _ ?side1 A2.out).mono ?_); (case side1 => exact Glob.below HG.out bl); rintro e w' ⟨rfl, ⟨nd, rfl⟩⟩; refine ⟨_, rfl, ?_⟩) | ((with_reducible refine gate_dst (N := 18) rfl ?_); (try (refine gate_guard (by rfl) ?_; dsimp only)); refine Kd.B_bytes _ 5 rfl (N := 18) rfl 9 55 _ t208 rfl rfl Tryz.underlying9 Tryz.underlying55 Tryz.underlying5 (ok := fun _ => True) trivial (od) (Below.refl _ _) (Nat.le_refl _) ?_; intro v213 w18 ho19 hb hg_ hnew_; clear hg_ hnew_; (first | rw [← Ny212.out] at ho19 | (simp only [Int.reduceToNat] at ho19; rw [← Ny212.out] at ho19)); have HO214 := Aside0.mk (Kd.B_lower ho19 (below_size bl)); replace HB := Aside0.mk (below_step bl hb); clear hb ho19; obtain ⟨Ao20, co20, eo20⟩ := Kd.B_slice HO214.out; subst eo20) | (go_at_call 74; (with_reducible refine (slices_ContainsFunc_byte_byte__path_parts_1.calls _ _ y212 false _ ?side1 ?side2 A7.out).mono ?_); (case side1 => repeat (first | exact (Kd.B_reads' HO214.out).2.2 | (with_reducible refine Kd.C_alloc ?_ _) | (with_reducible refine Kd.C_drewN ?_ _) | (with_reducible refine Kd.C_drew ?_))); (case side2 => exact (Kd.B_reads' HO214.out).2.1); rintro e w21 ⟨rfl, hb⟩; replace HO214 := Aside0.mk (Kd.B_below (by (with_reducible repeat (first | apply Kd.B_alloc | apply Kd.B_drewN | apply Kd.B_drew)); exact HO214.out) hb); replace HB := Aside0.mk (below_step bl hb); (try clear hb); (try clear hb2); (try clear hk); (try clear hi)) | ((with_reducible refine gate_callee (f := 64) rfl ?_); refine goesL_ (some 39) rfl rfl Tryz.func64 kf rfl #[.string t208] rfl ml ?_; (with_reducible refine (text_Lower.calls t208 t217 _ A17.out).mono ?_); rintro e w22 ⟨rfl, hb⟩; refine ⟨_, rfl, ?_⟩; replace HO214 := Aside0.mk (Kd.B_below (by (with_reducible repeat (first | apply Kd.B_alloc | apply Kd.B_drewN | apply Kd.B_drew)); exact HO214.out) hb); replace HB := Aside0.mk (below_step bl hb); (try clear hb); (try clear hb2); (try clear hk); (try clear hi)))
     refine bodyPost_ret (results_list (rs := [.tmp 2, .tmp 3, .tmp 4, .tmp 5]) rfl (by simp) (.tmp (.tmp (.tmp (.tmp .nil))))) rfl ?_
     exact ⟨rf, bl⟩
    ·rw [if_neg c16] at H
     have c16b0 : (t209.toList == ([] : List UInt8)) = false := beq_eq_false_iff_ne.mpr c16
     have c16b1 : (t209.toList != ([] : List UInt8)) = true := bne_iff_ne.mpr c16
     by_cases c23 : t209.size ≤ 9223372036854775807
     rotate_left
     ·rw [if_neg c23] at H
      exact ab H
     rw [if_pos c23] at H
     have c23b0 := eq_true c23
     have c23b1 : decide (t209.size ≤ 9223372036854775807) = true := decide_eq_true c23
     try have c23b2 : (9223372036854775807 < t209.size) = False := eq_false (Nat.not_lt.2 c23)
     clear c23
     obtain ⟨y218, hy218⟩ : ∃ y_ : List Int, y_ = (Kd.numsOf t209) := ⟨_, rfl⟩
     replace H : ((slices_ContainsFunc_byte_byte__path_parts_2.f y218).bind fun t221 => ((text_Lower.f t208).bind fun t222 => (some (t222, t209, true, !t221)))) = some (r1, r2, r3, r4) := by first | (rw [hy218]; with_reducible exact H) | (have H2_ := (Option.bind_some _ _).symm.trans H; rw [hy218]; with_reducible exact H2_) | (have H2_ := (Option.bind_some _ _).symm.trans H; with_reducible exact H2_) | with_reducible exact H | (rw [hy218]; exact H) | exact H
     have Ny218 := Aside0.mk hy218
     clear hy218
     obtain ⟨t221, A240, H⟩ := Option.bind_eq_some_iff.mp H
     replace H : ((text_Lower.f t208).bind fun t222 => (some (t222, t209, true, !t221))) = some (r1, r2, r3, r4) := H
     have A24 := Aside0.mk A240
     clear A240
     obtain ⟨t222, A250, H⟩ := Option.bind_eq_some_iff.mp H
     replace H : (some (t222, t209, true, !t221)) = some (r1, r2, r3, r4) := H
     have A25 := Aside0.mk A250
     clear A250
     simp only [Option.some.injEq, Prod.mk.injEq] at H
     obtain ⟨rfl, rfl, rfl, rfl⟩ := H
     go_enter Tryz.func44, Tryz.ntmps44
     go_wp2_with (first | ((with_reducible refine gate_callee (f := 61) rfl ?_); refine goesL_ (some 10) rfl rfl Tryz.func61 kf rfl #[.string a0, .string (⟨#[61]⟩ : ByteArray)] rfl ml ?_; (with_reducible refine (strings_Cut.calls a0 (⟨#[61]⟩ : ByteArray) t208 t209 true _ ?side1 A2.out).mono ?_); (case side1 => exact Glob.below HG.out bl); rintro e w' ⟨rfl, ⟨nd, rfl⟩⟩; refine ⟨_, rfl, ?_⟩) | ((with_reducible refine gate_dst (N := 18) rfl ?_); (try (refine gate_guard (by rfl) ?_; dsimp only)); refine Kd.B_bytes _ 5 rfl (N := 18) rfl 9 55 _ t208 rfl rfl Tryz.underlying9 Tryz.underlying55 Tryz.underlying5 (ok := fun _ => True) trivial (od) (Below.refl _ _) (Nat.le_refl _) ?_; intro v213 w26 ho27 hb hg_ hnew_; clear hg_ hnew_; (first | rw [← Ny212.out] at ho27 | (simp only [Int.reduceToNat] at ho27; rw [← Ny212.out] at ho27)); have HO214 := Aside0.mk (Kd.B_lower ho27 (below_size bl)); replace HB := Aside0.mk (below_step bl hb); clear hb ho27; obtain ⟨Ao28, co28, eo28⟩ := Kd.B_slice HO214.out; subst eo28) | (go_at_call 74; (with_reducible refine (slices_ContainsFunc_byte_byte__path_parts_1.calls _ _ y212 false _ ?side1 ?side2 A7.out).mono ?_); (case side1 => repeat (first | exact (Kd.B_reads' HO214.out).2.2 | (with_reducible refine Kd.C_alloc ?_ _) | (with_reducible refine Kd.C_drewN ?_ _) | (with_reducible refine Kd.C_drew ?_))); (case side2 => exact (Kd.B_reads' HO214.out).2.1); rintro e w29 ⟨rfl, hb⟩; replace HO214 := Aside0.mk (Kd.B_below (by (with_reducible repeat (first | apply Kd.B_alloc | apply Kd.B_drewN | apply Kd.B_drew)); exact HO214.out) hb); replace HB := Aside0.mk (below_step bl hb); (try clear hb); (try clear hb2); (try clear hk); (try clear hi)) | ((with_reducible refine gate_dst (N := 33) rfl ?_); (try (refine gate_guard (by rfl) ?_; dsimp only)); refine Kd.B_bytes _ 5 rfl (N := 33) rfl 9 55 _ t209 rfl rfl Tryz.underlying9 Tryz.underlying55 Tryz.underlying5 (ok := fun _ => True) trivial (od) (Below.refl _ _) (Nat.le_refl _) ?_; intro v219 w30 ho31 hb hg_ hnew_; clear hg_ hnew_; (first | rw [← Ny218.out] at ho31 | (simp only [Int.reduceToNat] at ho31; rw [← Ny218.out] at ho31)); have HO220 := Aside0.mk (Kd.B_lower (Kd.B_new' ho31 (Kd.B_lt (by (with_reducible repeat (first | apply Kd.B_alloc | apply Kd.B_drewN | apply Kd.B_drew)); exact HO214.out))) (below_size bl)); replace HO214 := Aside0.mk (Kd.B_elder' (by (with_reducible repeat (first | apply Kd.B_alloc | apply Kd.B_drewN | apply Kd.B_drew)); exact HO214.out) (Kd.B_base ho31) hb); replace HB := Aside0.mk (below_step bl hb); clear hb ho31; obtain ⟨Ao32, co32, eo32⟩ := Kd.B_slice HO220.out; subst eo32) | (go_at_call 74; (with_reducible refine (slices_ContainsFunc_byte_byte__path_parts_2.calls _ _ y218 t221 _ ?side1 ?side2 A24.out).mono ?_); (case side1 => repeat (first | exact (Kd.B_reads' HO220.out).2.2 | (with_reducible refine Kd.C_alloc ?_ _) | (with_reducible refine Kd.C_drewN ?_ _) | (with_reducible refine Kd.C_drew ?_))); (case side2 => exact (Kd.B_reads' HO220.out).2.1); rintro e w33 ⟨rfl, hb⟩; replace HO214 := Aside0.mk (Kd.B_below (by (with_reducible repeat (first | apply Kd.B_alloc | apply Kd.B_drewN | apply Kd.B_drew)); exact HO214.out) hb); replace HO220 := Aside0.mk (Kd.B_below (by (with_reducible repeat (first | apply Kd.B_alloc | apply Kd.B_drewN | apply Kd.B_drew)); exact HO220.out) hb); replace HB := Aside0.mk (below_step bl hb); (try clear hb); (try clear hb2); (try clear hk); (try clear hi)) | ((with_reducible refine gate_callee (f := 64) rfl ?_); refine goesL_ (some 39) rfl rfl Tryz.func64 kf rfl #[.string t208] rfl ml ?_; (with_reducible refine (text_Lower.calls t208 t222 _ A25.out).mono ?_); rintro e w34 ⟨rfl, hb⟩; refine ⟨_, rfl, ?_⟩; replace HO214 := Aside0.mk (Kd.B_below (by (with_reducible repeat (first | apply Kd.B_alloc | apply Kd.B_drewN | apply Kd.B_drew)); exact HO214.out) hb); replace HO220 := Aside0.mk (Kd.B_below (by (with_reducible repeat (first | apply Kd.B_alloc | apply Kd.B_drewN | apply Kd.B_drew)); exact HO220.out) hb); replace HB := Aside0.mk (below_step bl hb); (try clear hb); (try clear hb2); (try clear hk); (try clear hi)))
     refine bodyPost_ret (results_list (rs := [.tmp 2, .tmp 3, .tmp 4, .tmp 5]) rfl (by simp) (.tmp (.tmp (.tmp (.tmp .nil))))) rfl ?_
     exact ⟨rf, bl⟩
   ·replace c15 := Bool.eq_false_iff.mpr c15
    subst c15
    replace H : (if t209.size ≤ 9223372036854775807 then ((slices_ContainsFunc_byte_byte__path_parts_2.f (Kd.numsOf t209)).bind fun t226 => ((text_Lower.f t208).bind fun t227 => (some (t227, t209, false, !t226)))) else (none)) = some (r1, r2, r3, r4) := by rw [if_neg (show ¬ (false = true) by decide)] at H; exact H
    by_cases c35 : t209.size ≤ 9223372036854775807
    rotate_left
    ·rw [if_neg c35] at H
     exact ab H
    rw [if_pos c35] at H
    have c35b0 := eq_true c35
    have c35b1 : decide (t209.size ≤ 9223372036854775807) = true := decide_eq_true c35
    try have c35b2 : (9223372036854775807 < t209.size) = False := eq_false (Nat.not_lt.2 c35)
    clear c35
    obtain ⟨y223, hy223⟩ : ∃ y_ : List Int, y_ = (Kd.numsOf t209) := ⟨_, rfl⟩
    replace H : ((slices_ContainsFunc_byte_byte__path_parts_2.f y223).bind fun t226 => ((text_Lower.f t208).bind fun t227 => (some (t227, t209, false, !t226)))) = some (r1, r2, r3, r4) := by first | (rw [hy223]; with_reducible exact H) | (have H2_ := (Option.bind_some _ _).symm.trans H; rw [hy223]; with_reducible exact H2_) | (have H2_ := (Option.bind_some _ _).symm.trans H; with_reducible exact H2_) | with_reducible exact H | (rw [hy223]; exact H) | exact H
    have Ny223 := Aside0.mk hy223
    clear hy223
    obtain ⟨t226, A360, H⟩ := Option.bind_eq_some_iff.mp H
    replace H : ((text_Lower.f t208).bind fun t227 => (some (t227, t209, false, !t226))) = some (r1, r2, r3, r4) := H
    have A36 := Aside0.mk A360
    clear A360
    obtain ⟨t227, A370, H⟩ := Option.bind_eq_some_iff.mp H
    replace H : (some (t227, t209, false, !t226)) = some (r1, r2, r3, r4) := H
    have A37 := Aside0.mk A370
    clear A370
    simp only [Option.some.injEq, Prod.mk.injEq] at H
    obtain ⟨rfl, rfl, rfl, rfl⟩ := H
    go_enter Tryz.func44, Tryz.ntmps44
    go_wp2_with (first | ((with_reducible refine gate_callee (f := 61) rfl ?_); refine goesL_ (some 10) rfl rfl Tryz.func61 kf rfl #[.string a0, .string (⟨#[61]⟩ : ByteArray)] rfl ml ?_; (with_reducible refine (strings_Cut.calls a0 (⟨#[61]⟩ : ByteArray) t208 t209 false _ ?side1 A2.out).mono ?_); (case side1 => exact Glob.below HG.out bl); rintro e w' ⟨rfl, ⟨nd, rfl⟩⟩; refine ⟨_, rfl, ?_⟩) | ((with_reducible refine gate_dst (N := 18) rfl ?_); (try (refine gate_guard (by rfl) ?_; dsimp only)); refine Kd.B_bytes _ 5 rfl (N := 18) rfl 9 55 _ t208 rfl rfl Tryz.underlying9 Tryz.underlying55 Tryz.underlying5 (ok := fun _ => True) trivial (od) (Below.refl _ _) (Nat.le_refl _) ?_; intro v213 w38 ho39 hb hg_ hnew_; clear hg_ hnew_; (first | rw [← Ny212.out] at ho39 | (simp only [Int.reduceToNat] at ho39; rw [← Ny212.out] at ho39)); have HO214 := Aside0.mk (Kd.B_lower ho39 (below_size bl)); replace HB := Aside0.mk (below_step bl hb); clear hb ho39; obtain ⟨Ao40, co40, eo40⟩ := Kd.B_slice HO214.out; subst eo40) | (go_at_call 74; (with_reducible refine (slices_ContainsFunc_byte_byte__path_parts_1.calls _ _ y212 false _ ?side1 ?side2 A7.out).mono ?_); (case side1 => repeat (first | exact (Kd.B_reads' HO214.out).2.2 | (with_reducible refine Kd.C_alloc ?_ _) | (with_reducible refine Kd.C_drewN ?_ _) | (with_reducible refine Kd.C_drew ?_))); (case side2 => exact (Kd.B_reads' HO214.out).2.1); rintro e w41 ⟨rfl, hb⟩; replace HO214 := Aside0.mk (Kd.B_below (by (with_reducible repeat (first | apply Kd.B_alloc | apply Kd.B_drewN | apply Kd.B_drew)); exact HO214.out) hb); replace HB := Aside0.mk (below_step bl hb); (try clear hb); (try clear hb2); (try clear hk); (try clear hi)) | ((with_reducible refine gate_dst (N := 33) rfl ?_); (try (refine gate_guard (by rfl) ?_; dsimp only)); refine Kd.B_bytes _ 5 rfl (N := 33) rfl 9 55 _ t209 rfl rfl Tryz.underlying9 Tryz.underlying55 Tryz.underlying5 (ok := fun _ => True) trivial (od) (Below.refl _ _) (Nat.le_refl _) ?_; intro v224 w42 ho43 hb hg_ hnew_; clear hg_ hnew_; (first | rw [← Ny223.out] at ho43 | (simp only [Int.reduceToNat] at ho43; rw [← Ny223.out] at ho43)); have HO225 := Aside0.mk (Kd.B_lower (Kd.B_new' ho43 (Kd.B_lt (by (with_reducible repeat (first | apply Kd.B_alloc | apply Kd.B_drewN | apply Kd.B_drew)); exact HO214.out))) (below_size bl)); replace HO214 := Aside0.mk (Kd.B_elder' (by (with_reducible repeat (first | apply Kd.B_alloc | apply Kd.B_drewN | apply Kd.B_drew)); exact HO214.out) (Kd.B_base ho43) hb); replace HB := Aside0.mk (below_step bl hb); clear hb ho43; obtain ⟨Ao44, co44, eo44⟩ := Kd.B_slice HO225.out; subst eo44) | (go_at_call 74; (with_reducible refine (slices_ContainsFunc_byte_byte__path_parts_2.calls _ _ y223 t226 _ ?side1 ?side2 A36.out).mono ?_); (case side1 => repeat (first | exact (Kd.B_reads' HO225.out).2.2 | (with_reducible refine Kd.C_alloc ?_ _) | (with_reducible refine Kd.C_drewN ?_ _) | (with_reducible refine Kd.C_drew ?_))); (case side2 => exact (Kd.B_reads' HO225.out).2.1); rintro e w45 ⟨rfl, hb⟩; replace HO214 := Aside0.mk (Kd.B_below (by (with_reducible repeat (first | apply Kd.B_alloc | apply Kd.B_drewN | apply Kd.B_drew)); exact HO214.out) hb); replace HO225 := Aside0.mk (Kd.B_below (by (with_reducible repeat (first | apply Kd.B_alloc | apply Kd.B_drewN | apply Kd.B_drew)); exact HO225.out) hb); replace HB := Aside0.mk (below_step bl hb); (try clear hb); (try clear hb2); (try clear hk); (try clear hi)) | ((with_reducible refine gate_callee (f := 64) rfl ?_); refine goesL_ (some 39) rfl rfl Tryz.func64 kf rfl #[.string t208] rfl ml ?_; (with_reducible refine (text_Lower.calls t208 t227 _ A37.out).mono ?_); rintro e w46 ⟨rfl, hb⟩; refine ⟨_, rfl, ?_⟩; replace HO214 := Aside0.mk (Kd.B_below (by (with_reducible repeat (first | apply Kd.B_alloc | apply Kd.B_drewN | apply Kd.B_drew)); exact HO214.out) hb); replace HO225 := Aside0.mk (Kd.B_below (by (with_reducible repeat (first | apply Kd.B_alloc | apply Kd.B_drewN | apply Kd.B_drew)); exact HO225.out) hb); replace HB := Aside0.mk (below_step bl hb); (try clear hb); (try clear hb2); (try clear hk); (try clear hi)))
    refine bodyPost_ret (results_list (rs := [.tmp 2, .tmp 3, .tmp 4, .tmp 5]) rfl (by simp) (.tmp (.tmp (.tmp (.tmp .nil))))) rfl ?_
    exact ⟨rf, bl⟩

/-! ### slices_Contains_string_string: function 45 (by hand) -/
def slices_Contains_string_string.f (l0 : List ByteArray) (a1 : ByteArray) : Option Bool := some (Lib.containsS l0 a1)
theorem slices_Contains_string_string.calls (A0 : Option Addr) (c0 : Nat) (l0 : List ByteArray) (a1 : ByteArray) (r : Bool) (w : World) (hr0 : Kd.C Kd.string w A0 l0.length l0) (hc0 : l0.length ≤ c0) (h : slices_Contains_string_string.f l0 a1 = some r) :
    Calls Tryz.prog 45 #[.slice A0 l0.length c0, .string a1] w fun e w' => e = .returned (.bool r) ∧ Drawn0 w w' := by
  obtain rfl := Option.some.inj h
  by_cases hl : l0 = []
  · subst hl
    refine (Tryz.slices_Contains_string_empty A0 c0 a1 w).mono ?_
    rintro e w' ⟨rfl, rfl⟩
    exact ⟨rfl, Drawn0.refl _⟩
  · obtain ⟨bk, o, rfl, hbk, hc⟩ := cells_at hr0 (List.length_pos_iff.2 hl)
    have hrd : ReadsOf Value.string ByteArray.empty w (some ⟨bk, o, none⟩) l0.length l0 := Kd.reads_of_C hr0
    refine (Tryz.slices_Contains_string bk o l0.length c0 l0 a1 w (Nat.le_refl _) hrd.2.1 (fun j hj => ?_)).mono ?_
    · rw [hc j (l0[j]'hj) (List.getElem?_eq_getElem hj)]
      simp [List.getD, hj]
    · rintro e w' ⟨rfl, rfl⟩
      rw [List.take_of_length_le (Nat.le_refl _)]
      exact ⟨rfl, Drawn0.refl _⟩


/-! ### path_ParseParams_of: function 180 (by hand) -/
def path_ParseParams_of.f (a0 : ByteArray) : Option (Int × Bool) := some (saysIx a0, saysIx a0 != 0)


/-! ### path_ParseParams_run: function 181 (by hand) -/
def path_says_2.f (a1 : ByteArray) : Option (Bool × Int) :=
  (text_Same.f a1 (⟨#[56, 98, 105, 116, 109, 105, 109, 101]⟩ : ByteArray)).bind fun t1 => if t1 = true then some (true, 0) else (text_Same.f a1 (⟨#[55, 98, 105, 116]⟩ : ByteArray)).bind fun t2 => if t2 = true then some (false, 0) else some (false, 1)
def path_ParseParams_run.f (ix : Int) (a0 a1 : Bool) (a2 : Int) (v : ByteArray) : Option (Bool × Bool × Int × Int) :=
  if ix = 1 then (text_Number.f v 9).bind fun t => some (true, a1, t.1, t.2)
  else if ix = 2 then (path_says_2.f v).bind fun t => some (a0, t.1, a2, t.2)
  else none
theorem grown_set (w : World) (g i : Nat) (v : Value) : w.grownBy (w.setCell ⟨g, i, none⟩ v) (some g) :=
  ⟨rfl, rfl, rfl, by simp [World.size_setCell], fun k _ hk => Below.heap_setCell w ⟨g, i, none⟩ v k (fun e => hk (by rw [e]))⟩
theorem grown_then {w w1 w2 : World} {r : Option Nat} (h : w.grownBy w1 r) (k : w1.grownBy w2 r) : w.grownBy w2 r :=
  ⟨k.os.trans h.os, k.tape.trans h.tape, k.output.trans h.output, Nat.le_trans h.size k.size, fun i hi hr => (k.block i (Nat.lt_of_lt_of_le hi h.size) hr).trans (h.block i hi hr)⟩
theorem grown_below {w w1 : World} (r : Option Nat) (h : Below w.heap.size w w1) : w.grownBy w1 r := ⟨h.os, h.tape, h.output, h.size, fun i hi _ => h.block i hi⟩
theorem path_says_1.calls (a1 : ByteArray) (g : Nat) (b0 b1 : Bool) (z r1 r2 : Int) (w : World) (hg : w.heap[g]? = some (.cells #[.bool b0, .bool b1, .int .i64 z] 46 (0, 0))) (h : text_Number.f a1 9 = some (r1, r2)) :
    Calls Tryz.prog 167 #[.pointer (some ⟨g, 0, none⟩), .string a1] w fun e w' => e = .returned (.int .i64 r2) ∧ w'.heap[g]? = some (.cells #[.bool true, .bool b1, .int .i64 r1] 46 (0, 0)) ∧ w.grownBy w' (some g) := by
  have HN := Aside0.mk h
  have HG := Aside0.mk hg
  have h0 : w.cell? ⟨g, 0, none⟩ = some (.bool b0) := (blk_cell hg 0).trans rfl
  have h0f := blk_frozen hg 0
  clear h hg
  go_enter Tryz.func167, Tryz.ntmps167
  go_wp2_with (first | (go_at_call 112; (with_reducible refine (text_Number.calls a1 9 r1 r2 _ HN.out).mono ?_); rintro e w1 ⟨rfl, hb⟩; have B1 := Aside0.mk (blk_below (blk_set HG.out 0 (.bool true)) hb); have hc2 : w1.cell? ⟨g, 2, none⟩ = some (.int .i64 z) := (blk_cell B1.out 2).trans rfl; have hf2 := blk_frozen B1.out 2; have HX := Aside0.mk (grown_then (grown_set w g 0 (.bool true)) (grown_below (some g) hb)); clear hb))
  go_ret
  exact ⟨rfl, (blk_set B1.out 2 (.int .i64 r1)).trans rfl, grown_then HX.out (grown_set _ g 2 _)⟩
theorem path_says_2.calls (a1 : ByteArray) (g : Nat) (b0 b1 : Bool) (z : Int) (r1 : Bool) (r2 : Int) (w : World) (hg : w.heap[g]? = some (.cells #[.bool b0, .bool b1, .int .i64 z] 46 (0, 0))) (h : path_says_2.f a1 = some (r1, r2)) :
    Calls Tryz.prog 168 #[.pointer (some ⟨g, 0, none⟩), .string a1] w fun e w' => e = .returned (.int .i64 r2) ∧ w'.heap[g]? = some (.cells #[.bool b0, .bool r1, .int .i64 z] 46 (0, 0)) ∧ w.grownBy w' (some g) := by
  have HG := Aside0.mk hg
  unfold path_says_2.f at h
  obtain ⟨t1, h1, h⟩ := Option.bind_eq_some_iff.mp h
  have H1 := Aside0.mk h1
  clear h1 hg
  by_cases c1 : t1 = true
  · rw [if_pos c1] at h
    obtain ⟨rfl, rfl⟩ := Prod.mk.inj (Option.some.inj h)
    subst c1
    go_enter Tryz.func168, Tryz.ntmps168
    go_wp2_with (first | (go_at_call 34; (with_reducible refine (text_Same.calls a1 (⟨#[56, 98, 105, 116, 109, 105, 109, 101]⟩ : ByteArray) true _ H1.out).mono ?_); rintro e w1 ⟨rfl, hb⟩; have B1 := Aside0.mk (blk_below HG.out hb); have hc1 : w1.cell? ⟨g, 1, none⟩ = some (.bool b1) := (blk_cell B1.out 1).trans rfl; have hf1 := blk_frozen B1.out 1; have hd1 : (w1.setCell ⟨g, 1, none⟩ (.bool true)).cell? ⟨g, 1, none⟩ = some (.bool true) := (blk_cell (blk_set B1.out 1 (.bool true)) 1).trans rfl; have HX := Aside0.mk (grown_then (grown_below (some g) hb) (grown_set w1 g 1 (.bool true))); clear hb))
    go_ret
    exact ⟨rfl, (blk_set B1.out 1 (.bool true)).trans rfl, HX.out⟩
  · rw [if_neg c1] at h
    have c2 : t1 = false := by simpa using c1
    subst c2
    clear c1
    obtain ⟨t2, h2, h⟩ := Option.bind_eq_some_iff.mp h
    have H2 := Aside0.mk h2
    clear h2
    cases t2
    · rw [if_neg (by decide)] at h
      obtain ⟨rfl, rfl⟩ := Prod.mk.inj (Option.some.inj h)
      clear h
      go_enter Tryz.func168, Tryz.ntmps168
      go_wp2_with (first | (go_at_call 34; (with_reducible refine (text_Same.calls a1 (⟨#[56, 98, 105, 116, 109, 105, 109, 101]⟩ : ByteArray) false _ H1.out).mono ?_); rintro e w1 ⟨rfl, hb⟩; have B1 := Aside0.mk (blk_below HG.out hb); have hc1 : w1.cell? ⟨g, 1, none⟩ = some (.bool b1) := (blk_cell B1.out 1).trans rfl; have hf1 := blk_frozen B1.out 1; have hd1 : (w1.setCell ⟨g, 1, none⟩ (.bool false)).cell? ⟨g, 1, none⟩ = some (.bool false) := (blk_cell (blk_set B1.out 1 (.bool false)) 1).trans rfl; have HX := Aside0.mk (grown_then (grown_below (some g) hb) (grown_set w1 g 1 (.bool false))); clear hb) | (go_at_call 34; (with_reducible refine (text_Same.calls a1 (⟨#[55, 98, 105, 116]⟩ : ByteArray) false _ H2.out).mono ?_); rintro e w2 ⟨rfl, hb⟩; have B2 := Aside0.mk (blk_below (blk_set B1.out 1 (.bool false)) hb); have HY := Aside0.mk (grown_then HX.out (grown_below (some g) hb)); clear hb))
      go_wp2_with (first | (go_at_call 34; (with_reducible refine (text_Same.calls a1 (⟨#[56, 98, 105, 116, 109, 105, 109, 101]⟩ : ByteArray) false _ H1.out).mono ?_); rintro e w1 ⟨rfl, hb⟩; have B1 := Aside0.mk (blk_below HG.out hb); have hc1 : w1.cell? ⟨g, 1, none⟩ = some (.bool b1) := (blk_cell B1.out 1).trans rfl; have hf1 := blk_frozen B1.out 1; have hd1 : (w1.setCell ⟨g, 1, none⟩ (.bool false)).cell? ⟨g, 1, none⟩ = some (.bool false) := (blk_cell (blk_set B1.out 1 (.bool false)) 1).trans rfl; have HX := Aside0.mk (grown_then (grown_below (some g) hb) (grown_set w1 g 1 (.bool false))); clear hb) | (go_at_call 34; (with_reducible refine (text_Same.calls a1 (⟨#[55, 98, 105, 116]⟩ : ByteArray) false _ H2.out).mono ?_); rintro e w2 ⟨rfl, hb⟩; have B2 := Aside0.mk (blk_below (blk_set B1.out 1 (.bool false)) hb); have HY := Aside0.mk (grown_then HX.out (grown_below (some g) hb)); clear hb))
      go_ret
      exact ⟨rfl, B2.out.trans rfl, HY.out⟩
    · rw [if_pos rfl] at h
      obtain ⟨rfl, rfl⟩ := Prod.mk.inj (Option.some.inj h)
      clear h
      go_enter Tryz.func168, Tryz.ntmps168
      go_wp2_with (first | (go_at_call 34; (with_reducible refine (text_Same.calls a1 (⟨#[56, 98, 105, 116, 109, 105, 109, 101]⟩ : ByteArray) false _ H1.out).mono ?_); rintro e w1 ⟨rfl, hb⟩; have B1 := Aside0.mk (blk_below HG.out hb); have hc1 : w1.cell? ⟨g, 1, none⟩ = some (.bool b1) := (blk_cell B1.out 1).trans rfl; have hf1 := blk_frozen B1.out 1; have hd1 : (w1.setCell ⟨g, 1, none⟩ (.bool false)).cell? ⟨g, 1, none⟩ = some (.bool false) := (blk_cell (blk_set B1.out 1 (.bool false)) 1).trans rfl; have HX := Aside0.mk (grown_then (grown_below (some g) hb) (grown_set w1 g 1 (.bool false))); clear hb) | (go_at_call 34; (with_reducible refine (text_Same.calls a1 (⟨#[55, 98, 105, 116]⟩ : ByteArray) true _ H2.out).mono ?_); rintro e w2 ⟨rfl, hb⟩; have B2 := Aside0.mk (blk_below (blk_set B1.out 1 (.bool false)) hb); have HY := Aside0.mk (grown_then HX.out (grown_below (some g) hb)); clear hb))
      go_wp2_with (first | (go_at_call 34; (with_reducible refine (text_Same.calls a1 (⟨#[56, 98, 105, 116, 109, 105, 109, 101]⟩ : ByteArray) false _ H1.out).mono ?_); rintro e w1 ⟨rfl, hb⟩; have B1 := Aside0.mk (blk_below HG.out hb); have hc1 : w1.cell? ⟨g, 1, none⟩ = some (.bool b1) := (blk_cell B1.out 1).trans rfl; have hf1 := blk_frozen B1.out 1; have hd1 : (w1.setCell ⟨g, 1, none⟩ (.bool false)).cell? ⟨g, 1, none⟩ = some (.bool false) := (blk_cell (blk_set B1.out 1 (.bool false)) 1).trans rfl; have HX := Aside0.mk (grown_then (grown_below (some g) hb) (grown_set w1 g 1 (.bool false))); clear hb) | (go_at_call 34; (with_reducible refine (text_Same.calls a1 (⟨#[55, 98, 105, 116]⟩ : ByteArray) true _ H2.out).mono ?_); rintro e w2 ⟨rfl, hb⟩; have B2 := Aside0.mk (blk_below (blk_set B1.out 1 (.bool false)) hb); have HY := Aside0.mk (grown_then HX.out (grown_below (some g) hb)); clear hb))
      go_ret
      exact ⟨rfl, B2.out.trans rfl, HY.out⟩
/-- The world with an old block put back, and the new cells stored one by one. -/
theorem put_back {w w' : World} {g T : Nat} {a b c a' b' c' : Value} (h : w.heap[g]? = some (.cells #[a, b, c] T (0, 0))) (h' : w'.heap[g]? = some (.cells #[a', b', c'] T (0, 0))) (k : w.grownBy w' (some g)) :
    ∃ w1, Below w.heap.size w w1 ∧ w' = ((w1.setCell ⟨g, 0, none⟩ a').setCell ⟨g, 1, none⟩ b').setCell ⟨g, 2, none⟩ c' := by
  have hl : g < w'.heap.size := (Array.getElem?_eq_some_iff.1 h').1
  refine ⟨{ w' with heap := w'.heap.setIfInBounds g (.cells #[a, b, c] T (0, 0)) }, ⟨k.os, k.tape, k.output, by simpa using k.size, fun i hi => ?_⟩, ?_⟩
  · show (w'.heap.setIfInBounds g _)[i]? = _
    rw [Array.getElem?_setIfInBounds]
    by_cases e : g = i
    · subst e; rw [if_pos rfl, if_pos hl, h]
    · rw [if_neg e]; exact k.block i hi (fun q => e (Option.some.inj q).symm)
  · unfold World.setCell
    obtain ⟨hp, tp, dn, os, ot⟩ := w'
    simp only [World.mk.injEq, and_true, true_and]
    refine Array.ext_getElem? fun i => ?_
    simp only [Array.getElem?_modify, Array.getElem?_setIfInBounds]
    by_cases e : g = i
    · subst e
      have h2 : hp[g]? = some (.cells #[a', b', c'] T (0, 0)) := h'
      have hl2 : g < hp.size := hl
      simp [hl2, (Array.getElem?_eq_some_iff.1 h2).2]
    · simp [e]
theorem path_ParseParams_run.one {i : Int} {b0 b1 : Bool} {z : Int} {v : ByteArray} {t1 t2 : Bool} {t3 t4 : Int} (h : path_ParseParams_run.f i b0 b1 z v = some (t1, t2, t3, t4)) :
    ∃ (n : Nat) (fn : Func), saysFn i = .func (.func n) #[] #[] ∧ Tryz.prog.funcs[n]? = some fn ∧ (fn.name == "runtime.NumGoroutine") = false ∧ fn.body.isSome = true ∧ ∀ (g : Nat) (w : World), w.heap[g]? = some (.cells #[.bool b0, .bool b1, .int .i64 z] 46 (0, 0)) →
      Calls Tryz.prog n #[.pointer (some ⟨g, 0, none⟩), .string v] w fun e w' => e = .returned (.int .i64 t4) ∧ ∃ w1, Below w.heap.size w w1 ∧ w' = ((w1.setCell ⟨g, 0, none⟩ (.bool t1)).setCell ⟨g, 1, none⟩ (.bool t2)).setCell ⟨g, 2, none⟩ (.int .i64 t3) := by
  unfold path_ParseParams_run.f at h
  by_cases h1 : i = 1
  · rw [if_pos h1] at h
    subst h1
    obtain ⟨⟨y1, y2⟩, h2, h⟩ := Option.bind_eq_some_iff.mp h
    simp only [Option.some.injEq, Prod.mk.injEq] at h
    obtain ⟨rfl, rfl, rfl, rfl⟩ := h
    refine ⟨167, _, rfl, Tryz.func167, by kernel_rfl, rfl, fun g w hg => (path_says_1.calls v g b0 b1 z y1 y2 w hg h2).mono ?_⟩
    rintro e w' ⟨rfl, hx, hk⟩
    exact ⟨rfl, put_back hg hx hk⟩
  · rw [if_neg h1] at h
    by_cases h2 : i = 2
    · rw [if_pos h2] at h
      subst h2
      obtain ⟨⟨y1, y2⟩, h2, h⟩ := Option.bind_eq_some_iff.mp h
      simp only [Option.some.injEq, Prod.mk.injEq] at h
      obtain ⟨rfl, rfl, rfl, rfl⟩ := h
      refine ⟨168, _, rfl, Tryz.func168, by kernel_rfl, rfl, fun g w hg => (path_says_2.calls v g b0 b1 z y1 y2 w hg h2).mono ?_⟩
      rintro e w' ⟨rfl, hx, hk⟩
      exact ⟨rfl, put_back hg hx hk⟩
    · rw [if_neg h2] at h; cases h
theorem says_now {w w1 : World} (hG : Glob w) (hb : Below w.heap.size w w1) {n : ByteArray} {i : Int} {b : Bool} (h : path_ParseParams_of.f n = some (i, b)) (hn : n.size ≤ maxLen) :
    ∃ b0, w1.cell? ⟨0, 0, none⟩ = some (.map (some b0)) ∧ (Instr.lookup 92 (.map (some b0)) (.string n) true).run Tryz.prog w1 = .ok (.tuple #[saysFn i, .bool b]) w1 := by
  obtain ⟨b0, h1, h2⟩ := (hG.below hb).says.at
  unfold path_ParseParams_of.f at h
  simp only [Option.some.injEq, Prod.mk.injEq] at h
  obtain ⟨rfl, rfl⟩ := h
  exact ⟨b0, h1, h2 n hn⟩
theorem parts_size {a n v : ByteArray} {h i : Bool} (e : path_parts.f a = some (n, v, h, i)) : n.size ≤ maxLen := by
  have hM : maxLen = 9223372036854775807 := rfl
  have low : ∀ {x r : ByteArray}, text_Lower.f x = some r → r.size ≤ maxLen := by
    intro x r q
    unfold text_Lower.f at q
    split at q
    · rename_i hs
      obtain rfl := Option.some.inj q
      show (lowerB x).data.size ≤ _
      unfold lowerB
      have : x.data.toList.length = x.size := by rw [Array.length_toList]; rfl
      simp only [List.size_toArray, List.length_map]
      omega
    · cases q
  have fin : ∀ {x : ByteArray} {g : ByteArray → ByteArray × ByteArray × Bool × Bool} (hg : ∀ y, (g y).1 = y), ((text_Lower.f x).bind fun y => some (g y)) = some (n, v, h, i) → n.size ≤ maxLen := by
    intro x g hg q
    obtain ⟨y, h1, h2⟩ := Option.bind_eq_some_iff.mp q
    have h3 : (g y).1 = n := by rw [Option.some.inj h2]
    rw [hg] at h3
    rw [← h3]; exact low h1
  unfold path_parts.f at e
  obtain ⟨t, _, e⟩ := Option.bind_eq_some_iff.mp e
  split at e
  · exact fin (g := fun y => (y, t.2.1, t.2.2, false)) (fun _ => rfl) e
  · split at e
    · obtain ⟨c1, _, e⟩ := Option.bind_eq_some_iff.mp e
      split at e
      · exact fin (g := fun y => (y, t.2.1, t.2.2, false)) (fun _ => rfl) e
      · split at e
        · split at e
          · exact fin (g := fun y => (y, t.2.1, t.2.2, false)) (fun _ => rfl) e
          · split at e
            · obtain ⟨c2, _, e⟩ := Option.bind_eq_some_iff.mp e
              exact fin (g := fun y => (y, t.2.1, t.2.2, !c2)) (fun _ => rfl) e
            · cases e
        · split at e
          · obtain ⟨c2, _, e⟩ := Option.bind_eq_some_iff.mp e
            exact fin (g := fun y => (y, t.2.1, t.2.2, !c2)) (fun _ => rfl) e
          · cases e
    · cases e
/-- A call of what a variable holds. -/
theorem gate_callv {P : Program} {ops : Array Oper} {Q : Exit → Act → World → Prop} {o : Oper} {rest : List Oper} {a : Act} {W : World} {c : Operand} {as1 : Array Operand} {ts : Array TypeId} (_ho : o.op = .call { callee := .value c, args := as1, argTypes := ts }) (h : wpList P ops Q (o :: rest) a W) : wpList P ops Q (o :: rest) a W := h
theorem goesV_ {P : Program} {ops : Array Oper} {Q : Exit → Act → World → Prop} {rest : List Oper} {oi : Oper} {a : Act} {w : World} (N : Option Tmp) (hd : oi.dst = N) (hg : oi.guard = none) {c : Operand} {f : FuncId} {fn : Func} {as1 : Array Operand} {ts : Array TypeId} (hc : a.eval c = .func (.func f) #[] #[]) (hf : P.funcs[f]? = some fn) (hname : (fn.name == "runtime.NumGoroutine") = false) (hb : fn.body.isSome = true) (args : Array Value)
    (hop : oi.op = .call { callee := .value c, args := as1, argTypes := ts }) (hargs : as1.map a.eval = args)
    (h : Calls P f args w fun e w' => ∃ v, e = .returned v ∧ wpList P ops Q rest (a.put N v) w') : wpList P ops Q (oi :: rest) a w := by
  refine wpList_plain hg fun K hK => ?_
  have he := enters_ hf hname hb args w
  have hrun : (execOp a.eval oi).run P w = .ok (.enter f args) w := by
    unfold execOp
    simp [hop, resolve, Deferred.ofValue, invoke, hc, hargs, he]
  unfold Oper.wp
  rw [hrun, Oper.upon_enter]
  refine h.mono fun e w'' hh => ?_
  obtain ⟨v, rfl, hk⟩ := hh
  subst hd
  exact hK _ _ hk


end Go.Proofs.YtgelfnjicglmbaaGreatDoor.Q
end
