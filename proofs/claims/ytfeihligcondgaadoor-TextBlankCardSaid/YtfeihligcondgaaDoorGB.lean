/- TextBlank: its closure, and what strings.Map makes with it. -/
import Derived.Test.YtfeihligcondgaaDoorSh2
import Derived.Test.YtfeihligcondgaaDoorSh
import Derived.Test.YtfeihligcondgaaDoorProg
import Derived.Test.YtfeihligcondgaaDoorWWords
import Derived.Test.YtfeihligcondgaaDoorWLast
import Derived.Test.YtfeihligcondgaaDoorWMore
namespace Go.Proofs.YtfeihligcondgaaDoor.B
open Go.RowKit Go.Proofs.YtfeihligcondgaaDoorW.PrintWords Go.Proofs.YtfeihligcondgaaDoorW.PrintLast Go.Proofs.YtfeihligcondgaaDoorW.PrintMore
set_option linter.unusedVariables false
set_option linter.unusedSimpArgs false
def cleanR (x : Int) : Int := if x < 32 then 120 else if 126 < x then 120 else if x = 40 then 120 else if x = 41 then 120 else if x = 92 then 120 else x
theorem clean_walk (x : Int) (w : World) : Calls Tryd.prog 8 #[.int .i32 x] w fun e w' => e = .returned (.int .i32 (cleanR x)) ∧ w' = w := by
  unfold cleanR
  by_cases c1 : x < 32
  · rw [if_pos c1]
    have b1 : decide (x < 32) = true := decide_eq_true c1
    clear c1
    go_enter Tryd.func8, Tryd.ntmps8
    go_wp2
    go_ret
    exact ⟨rfl, rfl⟩
  rw [if_neg c1]
  have b1 : decide (x < 32) = false := decide_eq_false c1
  clear c1
  by_cases c2 : 126 < x
  · rw [if_pos c2]
    have b2 : decide (126 < x) = true := decide_eq_true c2
    have b2' : decide (x > 126) = true := b2
    clear c2
    go_enter Tryd.func8, Tryd.ntmps8
    go_wp2
    go_ret
    exact ⟨rfl, rfl⟩
  rw [if_neg c2]
  have b2 : decide (126 < x) = false := decide_eq_false c2
  clear c2
  by_cases c3 : x = 40
  · subst c3
    go_enter Tryd.func8, Tryd.ntmps8
    go_wp2
    go_ret
    exact ⟨rfl, rfl⟩
  rw [if_neg c3]
  have b3 : (x == 40) = false := beq_false_of_ne c3
  clear c3
  by_cases c4 : x = 41
  · subst c4
    go_enter Tryd.func8, Tryd.ntmps8
    go_wp2
    go_ret
    exact ⟨rfl, rfl⟩
  rw [if_neg c4]
  have b4 : (x == 41) = false := beq_false_of_ne c4
  clear c4
  by_cases c5 : x = 92
  · subst c5
    go_enter Tryd.func8, Tryd.ntmps8
    go_wp2
    go_ret
    exact ⟨rfl, rfl⟩
  rw [if_neg c5]
  have b5 : (x == 92) = false := beq_false_of_ne c5
  clear c5
  go_enter Tryd.func8, Tryd.ntmps8
  go_wp2
  go_ret
  exact ⟨rfl, rfl⟩
theorem cleanR_range (x : Int) : 32 ≤ cleanR x ∧ cleanR x ≤ 126 ∧ cleanR x ≠ 40 ∧ cleanR x ≠ 41 ∧ cleanR x ≠ 92 := by
  unfold cleanR
  (repeat' split) <;> omega
theorem Tryd_extra230 : Go.Proofs.Builder.Extra Tryd.prog Tryd.lays230_ren := {
  sizeBuilder := by kernel_rfl
  liesBuilder := by kernel_rfl
  t5 := Tryd.underlying5
  a5 := Tryd.isAgg5
  z5 := Tryd.sizeOf5
  v5 := Tryd.zeroValue5
  infoByte := by kernel_rfl
  cellsByte := by kernel_rfl
  sizeByte := by kernel_rfl
  neB5 := by decide }
theorem map_clean (s : ByteArray) (w : World) (hs : s.size < 35184372088832) (hT : Lib.Utf8Tabs (Tryd.lays230_ren.g 3) (Tryd.lays230_ren.g 4) w) :
    Calls Tryd.prog 7 #[.func (.func 8) #[] #[], .string s] w fun e w' => e = .returned (.string ⟨(Lib.mapD cleanR s.data.toList).toArray⟩) ∧ Below w.heap.size w w' := by
  refine Any.strings_Map_grows Tryd.lays230 Tryd_extra230 8 #[] ?_ cleanR s w hs ?_ (fun x hx => ?_) hT
  · exact enters_of Tryd.func8 (by kernel_rfl) rfl
  · intro W x hx hb
    exact (clean_walk (x : Int) W).mono fun e w' ⟨h1, h2⟩ => ⟨h1, h2 ▸ Below.refl _ _⟩
  · have := cleanR_range (x : Int); omega
def nstB : Nat → ByteArray → ByteArray
  | 0, s => s
  | d + 1, s => ((⟨#[40]⟩ : ByteArray) ++ nstB d s) ++ (⟨#[41]⟩ : ByteArray)
theorem nstB_size (d : Nat) (s : ByteArray) : (nstB d s).size = s.size + 2 * d := by
  induction d with
  | zero => rfl
  | succ d ih =>
    unfold nstB
    rw [ByteArray.size_append, ByteArray.size_append, ih]
    show 1 + _ + 1 = _
    omega
theorem nested_walk (s : ByteArray) (D : Nat) (hs : s.size ≤ 1000) (hD : D ≤ 100) (w : World) : Calls Tryd.prog 9 #[.string s, .int .i64 (D : Int)] w fun e w' => e = .returned (.string (nstB D s)) ∧ w' = w := by
  go_enter Tryd.func9, Tryd.ntmps9
  go_wp2
  go_loopg [0, 6] D (fun gk s0 s6 wx => ∃ i : Nat, s0 = .string (nstB i s) ∧ s6 = .int .i64 (i : Int) ∧ wx = w ∧ i + gk = D)
  case atStart => exact ⟨0, rfl, rfl, rfl, by omega⟩
  case round =>
    obtain ⟨i, rfl, rfl, rfl, hi⟩ := hrel
    have hsz := nstB_size i s
    by_cases hlt : i < D
    · have h1 : decide ((i : Int) < (D : Int)) = true := decide_eq_true (by omega)
      have hn : nstB (i + 1) s = ((⟨#[40]⟩ : ByteArray) ++ nstB i s) ++ (⟨#[41]⟩ : ByteArray) := rfl
      generalize nstB i s = x at *
      have h2 : 1 + x.size ≤ 9223372036854775807 := by omega
      have h3 : 1 + x.size + 1 ≤ 9223372036854775807 := by omega
      have hw : wrap64 ((i : Int) + 1) = ((i + 1 : Nat) : Int) := by unfold wrap64; omega
      go_wp2
      obtain ⟨g', rfl⟩ : ∃ g', gk = g' + 1 := ⟨gk - 1, by omega⟩
      go_roundg g'
      case measure => omega
      case rel => exact ⟨i + 1, by rw [hn], by rw [Int.natCast_add]; rfl, rfl, by omega⟩
    · have h1 : decide ((i : Int) < (D : Int)) = false := decide_eq_false (by omega)
      obtain rfl : i = D := by omega
      go_wp2
      go_ret
      exact ⟨rfl, rfl⟩
structure Glob (w : World) : Prop where
  u8 : Lib.Utf8Tabs (Tryd.lays230_ren.g 3) (Tryd.lays230_ren.g 4) w
theorem Glob.below {w w' : World} (h : Glob w) (hb : Below w.heap.size w w') : Glob w' := ⟨Utf8Tabs_below h.u8 hb⟩
theorem Glob.drawn {w w' : World} (h : Glob w) (hd : Drawn0 w w') : Glob w' := h.below hd.below
end Go.Proofs.YtfeihligcondgaaDoor.B
