/- What is known of guards, one by one: all is told as the statement says (a closed statement). -/
import Derived.Test.YtacjnapgdikhbaaGreatDoorHB
import Derived.Test.YtacjnapgdikhbaaGreatDoorQx10
import Derived.Test.YtacjnapgdikhbaaGreatDoorQx12
import Derived.Test.YtacjnapgdikhbaaGreatDoorQx15
namespace Go.Proofs.YtacjnapgdikhbaaGreatDoor.Pure
open Go.RowKit Go.Proofs.YtacjnapgdikhbaaGreatDoor.Q Go.Proofs.YtacjnapgdikhbaaGreatDoor.S Go.Proofs.YtacjnapgdikhbaaGreatDoorW.PrintWords Go.Proofs.YtacjnapgdikhbaaGreatDoorW.PrintLast Go.Proofs.YtacjnapgdikhbaaGreatDoorW.PrintMore
set_option linter.unusedVariables false
set_option linter.unusedSimpArgs false
set_option maxRecDepth 100000
def GK.f (k : Nat) : Option Bool := (head_Parse.f k (⟨#[68, 69, 76, 73, 86, 69, 82, 69, 68, 45, 84, 79, 58, 32, 97, 64, 98, 32, 40, 120, 41, 13, 10, 100, 101, 108, 105, 118, 101, 114, 101, 100, 45, 116, 111, 58, 32, 32, 34, 99, 32, 100, 34, 64, 69, 32, 13, 10, 82, 101, 99, 101, 105, 118, 101, 100, 58, 32, 120, 13, 10, 88, 45, 82, 101, 99, 101, 105, 118, 101, 100, 58, 32, 121, 13, 10, 13, 10]⟩ : ByteArray)).bind fun bt372 => ((guard_Marks.f k bt372.1 bt372.2.1 bt372.2.2.1).bind fun t379 => ((guard_Stamp.f k bt372.1 bt372.2.1 bt372.2.2.1 (⟨#[72, 111, 109, 101, 46, 111, 114, 103]⟩ : ByteArray) 4294967295 86400).bind fun bt382 => ((guard_Stamp.f k bt372.1 bt372.2.1 bt372.2.2.1 (⟨#[45]⟩ : ByteArray) 1 1).bind fun bt389 => ((guard_Mark.f k bt372.1 bt372.2.1 bt372.2.2.1 (⟨#[]⟩ : ByteArray) (⟨#[]⟩ : ByteArray)).bind fun bt396 => ((some ([], (⟨#[]⟩ : ByteArray), false, (0 : Int)) : Option (List S72 × ByteArray × Bool × Int)).bind fun bt404 => ((some ([], (⟨#[]⟩ : ByteArray), false, (3 : Int)) : Option (List S72 × ByteArray × Bool × Int)).bind fun bt411 => ((some ([], (⟨#[]⟩ : ByteArray), false, (3 : Int)) : Option (List S72 × ByteArray × Bool × Int)).bind fun bt418 => ((guard_Check.f k bt372.1 bt372.2.1 bt372.2.2.1 ([] : List (S50))).bind fun bt425 => (if bt372.2.2.2 = 0 then (if (t379.length : Int) = 1 then (if 0 < (t379.length : Int) then (if ((((rd_T50 t379 0).f0).toList) == ([99, 32, 100] : List UInt8) && ((((rd_T50 t379 0).f1).toList) == ([101] : List UInt8))) = true then ((guard_Hops.f bt372.1 bt372.2.1 bt372.2.2.1).bind fun t432 => (if t432 = 1 then (if bt382.2.2.2 = 0 then (if (bt382.1.length : Int) = 5 then (if 0 < (bt382.1.length : Int) then (if ((rd_T72 bt382.1 0).f1).toList = ([98, 121, 32, 72, 111, 109, 101, 46, 111, 114, 103, 32, 105, 100, 32, 52, 50, 57, 52, 57, 54, 55, 50, 57, 53, 59, 32, 70, 114, 105, 44, 32, 48, 50, 32, 74, 97, 110, 32, 49, 57, 55, 48, 32, 48, 48, 58, 48, 48, 58, 48, 48, 32, 43, 48, 48, 48, 48] : List UInt8) then (if bt389.2.2.2 = 1 then (if bt396.2.2.2 = 1 then (if bt404.2.2.2 = 0 then (if bt411.2.2.2 = 3 then (if bt418.2.2.2 = 3 then (if (bt425.1.length : Int) = 0 then (if (bt425.2.length : Int) = 0 then ((postriderlaw22_tells.f k).bind fun t434 => (some t434)) else (some false)) else (some false)) else (some false)) else (some false)) else (some false)) else (some false)) else (some false)) else (some false)) else (none)) else (some false)) else (some false)) else (some false))) else (some false)) else (none)) else (some false)) else (some false))))))))))
theorem GK.mono : ∀ k, LeO (GK.f k ) (GK.f (k + 1) ) := by
 intro  k
 unfold GK.f
 repeat' first
   | (with_reducible exact guard_Check.mono _ _ _ _ _)
   | (with_reducible exact guard_Mark.mono _ _ _ _ _ _)
   | (with_reducible exact guard_Marks.mono _ _ _ _)
   | (with_reducible exact guard_Stamp.mono _ _ _ _ _ _ _)
   | (with_reducible exact head_Parse.mono _ _)
   | (with_reducible exact postriderlaw22_tells.mono _)
   | (with_reducible exact LeO.refl _)
   | (with_reducible exact LeO.none _)
   | (with_reducible refine LeO.ite ?_ ?_)
   | (with_reducible refine LeO.bind ?_ (fun _ => ?_))
   | exact guard_Check.mono _ _ _ _ _
   | exact guard_Mark.mono _ _ _ _ _ _
   | exact guard_Marks.mono _ _ _ _
   | exact guard_Stamp.mono _ _ _ _ _ _ _
   | exact head_Parse.mono _ _
   | exact postriderlaw22_tells.mono _
   | exact LeO.none _
   | refine LeO.ite ?_ ?_
   | refine LeO.bind ?_ (fun _ => ?_)

theorem GK_true : GK.f 100 = some true := by decide +kernel
theorem rep_repl (c : UInt8) (n : Nat) : Lib.repeatL [c] n = List.replicate n c := by
  have := Lib.repeatL_replicate c 1 n
  simpa using this
theorem rep_f (c : UInt8) (n : Nat) (h : n ≤ 100000) : strings_Repeat.f (⟨#[c]⟩ : ByteArray) (n : Int) = some (B (List.replicate n c)) := by
  unfold strings_Repeat.f
  have hs : (⟨#[c]⟩ : ByteArray).size = 1 := rfl
  rw [if_pos ⟨by omega, by omega, by rw [hs]; omega⟩]
  show some (B (Lib.repeatL [c] ((n : Int).toNat))) = _
  rw [Int.toNat_natCast, rep_repl]
def xs : List UInt8 := List.replicate 8188 120
def bodyX : ByteArray := B (flat [xs])
def longX : ByteArray := ((⟨#[13, 10]⟩ : ByteArray) ++ B xs) ++ (⟨#[13, 10]⟩ : ByteArray)
theorem xs_len : xs.length = 8188 := List.length_replicate
theorem xs_rg : rgL xs = true := List.all_eq_true.2 (fun c hc => by rw [List.eq_of_mem_replicate hc]; decide)
theorem flat1 (x : List UInt8) : flat [x] = x ++ [13, 10] := by rw [flat_cons, flat_nil]; try simp
theorem body_size : bodyX.size = 8190 := by
  unfold bodyX
  rw [B_size, flat1, List.length_append, xs_len]; rfl
theorem long_L : L longX = mtL [] false [xs] := by
  unfold longX mtL
  rw [L_app, L_app, L_B, flat1]
  try rfl
theorem long_size : longX.size = 8192 := by
  rw [← L_len, long_L]
  unfold mtL
  rw [flat1]
  simp [xs_len]
theorem parse_long : Ev (fun k => head_Parse.f k longX) ([], bodyX, false, 0) := by
  have hp := parse_f (s := longX)
  rw [if_neg (by rw [long_size]; decide), long_L, ms_text (by simp) false (by simp [xs_rg])] at hp
  exact hp
theorem with_long (F : S72) (h1 : 1 ≤ F.f2.size) (h2 : F.f2.size ≤ 100000) : head_Message_with.f [] bodyX false [F] = some ([], (⟨#[]⟩ : ByteArray), false, 3) := by
  have hb := body_size
  have hl : (headText [F] bodyX false).length = F.f2.size + 8192 := by
    unfold headText headPre
    have e1 : F.f2.data.toList.length = F.f2.size := L_len F.f2
    have e2 : bodyX.data.toList.length = bodyX.size := L_len bodyX
    simp [e1, e2, hb]
  unfold head_Message_with.f
  rw [text_f (by omega) (by simp) (by omega), Option.bind_some, B_size, hl, if_pos (by omega)]
theorem ahead_long {n v a b c : ByteArray} (h : Ev (fun k => head_Lay.f k n v) (a, b, c, 0)) (h1 : 1 ≤ c.size) (h2 : c.size ≤ 100000) : Ev (fun k => head_Message_Ahead.f k [] bodyX false n v) ([], (⟨#[]⟩ : ByteArray), false, 3) := by
  unfold head_Message_Ahead.f
  refine Ev.bind2 h ?_
  refine Ev.cong (fun k => if_pos rfl) ?_
  refine Ev.bindc rfl ?_
  refine Ev.cong (fun k => if_pos (by simp)) ?_
  simp only [List.append_nil]
  refine Ev.bindc (with_long _ h1 h2) ?_
  exact Ev.pure _
theorem lay_mark : Ev (fun k => head_Lay.f k (⟨#[68, 101, 108, 105, 118, 101, 114, 101, 100, 45, 84, 111]⟩ : ByteArray) (⟨#[97, 64, 98]⟩ : ByteArray)) ((⟨#[68, 101, 108, 105, 118, 101, 114, 101, 100, 45, 84, 111]⟩ : ByteArray), (⟨#[97, 64, 98]⟩ : ByteArray), (⟨#[68, 101, 108, 105, 118, 101, 114, 101, 100, 45, 84, 111, 58, 32, 97, 64, 98, 13, 10]⟩ : ByteArray), 0) := Ev.of (head_Lay.mono _ _) (k := 100) (by decide +kernel)
theorem mark_long : Ev (fun k => guard_Mark.f k [] bodyX false (⟨#[97]⟩ : ByteArray) (⟨#[98]⟩ : ByteArray)) ([], (⟨#[]⟩ : ByteArray), false, 3) := by
  unfold guard_Mark.f
  refine Ev.bindc (a := true) (by decide +kernel) ?_
  refine Ev.cong (fun k => if_pos rfl) ?_
  refine Ev.bind2 (a := (⟨#[97, 64, 98]⟩ : ByteArray)) (Ev.of (addr_Text.mono _ _) (k := 100) (by decide +kernel)) ?_
  refine Ev.bind2 (ahead_long lay_mark (by decide) (by decide)) ?_
  exact Ev.pure _
theorem lay_stamp : Ev (fun k => head_Lay.f k (⟨#[82, 101, 99, 101, 105, 118, 101, 100]⟩ : ByteArray) (⟨#[98, 121, 32, 97, 32, 105, 100, 32, 49, 59, 32, 84, 104, 117, 44, 32, 48, 49, 32, 74, 97, 110, 32, 49, 57, 55, 48, 32, 48, 48, 58, 48, 48, 58, 48, 49, 32, 43, 48, 48, 48, 48]⟩ : ByteArray)) ((⟨#[82, 101, 99, 101, 105, 118, 101, 100]⟩ : ByteArray), (⟨#[98, 121, 32, 97, 32, 105, 100, 32, 49, 59, 32, 84, 104, 117, 44, 32, 48, 49, 32, 74, 97, 110, 32, 49, 57, 55, 48, 32, 48, 48, 58, 48, 48, 58, 48, 49, 32, 43, 48, 48, 48, 48]⟩ : ByteArray), (⟨#[82, 101, 99, 101, 105, 118, 101, 100, 58, 32, 98, 121, 32, 97, 32, 105, 100, 32, 49, 59, 32, 84, 104, 117, 44, 32, 48, 49, 32, 74, 97, 110, 32, 49, 57, 55, 48, 32, 48, 48, 58, 48, 48, 58, 48, 49, 32, 43, 48, 48, 48, 48, 13, 10]⟩ : ByteArray), 0) := Ev.of (head_Lay.mono _ _) (k := 100) (by decide +kernel)
theorem stamp_long : Ev (fun k => guard_Stamp.f k [] bodyX false (⟨#[97]⟩ : ByteArray) 1 1) ([], (⟨#[]⟩ : ByteArray), false, 3) := by
  unfold guard_Stamp.f
  refine Ev.bindc (a := true) (by decide +kernel) ?_
  refine Ev.cong (fun k => if_pos rfl) ?_
  refine Ev.cong (fun k => if_pos (by decide)) ?_
  refine Ev.cong (fun k => if_pos (by decide)) ?_
  refine Ev.bindc (a := (⟨#[49]⟩ : ByteArray)) (by decide +kernel) ?_
  refine Ev.cong (fun k => if_pos (by decide)) ?_
  refine Ev.cong (fun k => if_pos (by decide)) ?_
  refine Ev.bind2 (a := (⟨#[84, 104, 117, 44, 32, 48, 49, 32, 74, 97, 110, 32, 49, 57, 55, 48, 32, 48, 48, 58, 48, 48, 58, 48, 49, 32, 43, 48, 48, 48, 48]⟩ : ByteArray)) (Ev.of (stamp_Date.mono _) (k := 100) (by decide +kernel)) ?_
  refine Ev.cong (fun k => if_pos (by decide)) ?_
  have e : (((((⟨#[98, 121, 32]⟩ : ByteArray) ++ (⟨#[97]⟩ : ByteArray)) ++ (⟨#[32, 105, 100, 32]⟩ : ByteArray)) ++ (⟨#[49]⟩ : ByteArray)) ++ (⟨#[59, 32]⟩ : ByteArray)) ++ (⟨#[84, 104, 117, 44, 32, 48, 49, 32, 74, 97, 110, 32, 49, 57, 55, 48, 32, 48, 48, 58, 48, 48, 58, 48, 49, 32, 43, 48, 48, 48, 48]⟩ : ByteArray) = (⟨#[98, 121, 32, 97, 32, 105, 100, 32, 49, 59, 32, 84, 104, 117, 44, 32, 48, 49, 32, 74, 97, 110, 32, 49, 57, 55, 48, 32, 48, 48, 58, 48, 48, 58, 48, 49, 32, 43, 48, 48, 48, 48]⟩ : ByteArray) := by decide +kernel
  simp only [e]
  refine Ev.bind2 (ahead_long lay_stamp (by decide) (by decide)) ?_
  exact Ev.pure _
theorem bind_cong {α β : Type} {o : Option α} {f g : α → Option β} (h : ∀ a, f a = g a) : o.bind f = o.bind g := by rw [funext h]
theorem GuardKnown : postriderlaw22_GuardKnown.Pure := by
  obtain ⟨K0, h0⟩ := Ev.of GK.mono GK_true
  obtain ⟨K1, h1⟩ := parse_long
  obtain ⟨K2, h2⟩ := mark_long
  obtain ⟨K3, h3⟩ := stamp_long
  refine ⟨K0 + K1 + K2 + K3, ?_⟩
  have g0 := h0 (K0 + K1 + K2 + K3) (by omega)
  have g1 := h1 (K0 + K1 + K2 + K3) (by omega)
  have g2 := h2 (K0 + K1 + K2 + K3) (by omega)
  have g3 := h3 (K0 + K1 + K2 + K3) (by omega)
  have gr : strings_Repeat.f (⟨#[120]⟩ : ByteArray) 8188 = some (B xs) := by
    have h := rep_f 120 8188 (by decide)
    have e : ((8188 : Nat) : Int) = 8188 := rfl
    rw [e] at h
    unfold xs
    exact h
  generalize K0 + K1 + K2 + K3 = k at g0 g1 g2 g3 ⊢
  unfold GK.f at g0
  unfold postriderlaw22_GuardKnown.f
  replace g1 : head_Parse.f k longX = some ([], bodyX, false, 0) := g1
  replace g2 : guard_Mark.f k [] bodyX false (⟨#[97]⟩ : ByteArray) (⟨#[98]⟩ : ByteArray) = some ([], (⟨#[]⟩ : ByteArray), false, 3) := g2
  replace g3 : guard_Stamp.f k [] bodyX false (⟨#[97]⟩ : ByteArray) 1 1 = some ([], (⟨#[]⟩ : ByteArray), false, 3) := g3
  unfold longX at g1
  have s1 : 2 + (B xs).size ≤ 9223372036854775807 := by rw [B_size, xs_len]; decide
  have s2 : ((⟨#[13, 10]⟩ : ByteArray) ++ B xs).size + 2 ≤ 9223372036854775807 := by rw [ByteArray.size_append, B_size, xs_len]; decide
  refine (bind_cong (fun b1 => bind_cong (fun b2 => bind_cong (fun b3 => bind_cong (fun b4 => bind_cong (fun b5 => ?_)))))).trans g0
  rw [gr, Option.bind_some, if_pos s1, if_pos s2, g1, Option.bind_some, Option.bind_some]
  show (guard_Mark.f k [] bodyX false (⟨#[97]⟩ : ByteArray) (⟨#[98]⟩ : ByteArray)).bind _ = _
  rw [g2, Option.bind_some, Option.bind_some]
  show (guard_Stamp.f k [] bodyX false (⟨#[97]⟩ : ByteArray) 1 1).bind _ = _
  rw [g3, Option.bind_some]
end Go.Proofs.YtacjnapgdikhbaaGreatDoor.Pure
