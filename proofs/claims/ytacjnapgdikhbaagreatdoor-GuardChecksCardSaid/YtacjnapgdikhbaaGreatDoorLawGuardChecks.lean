/- The law postriderlaw22_GuardChecks holds of every input: the row, out of its plain statement and its walk. -/
import Derived.Test.YtacjnapgdikhbaaGreatDoorRows
import Derived.Test.YtacjnapgdikhbaaGreatDoorQx21
import Derived.Test.YtacjnapgdikhbaaGreatDoorPureGuardChecks
import Derived.Test.YtacjnapgdikhbaaGreatDoorR
import Derived.Test.YtacjnapgdikhbaaGreatDoorTie
import Derived.Test.YtacjnapgdikhbaaGreatDoorCards
import Derived.SevenTiedAt
import Derived.Lay
import Derived.WalkKit
import Derived.ProofKit
import Derived.OpenShut
import Derived.ShutString
import Derived.ChangeOld
import Derived.Below
import Derived.SizedLaws
import Derived.Test.YtacjnapgdikhbaaGreatDoorV
namespace Go.Proofs.YtacjnapgdikhbaaGreatDoor.guardChecks
open Go.ChangeShapes Go.WideShapes Go.ChangeAt Go.RowKit
open Go.ChangeMaps (open_string shut_string)
set_option linter.unusedVariables false
theorem own : ownKnob Tryz.prog.godebug = none := by kernel_rfl
theorem laidOut : laidOutB Tryz.prog = true := by kernel_rfl
def IsRow (k : IntKind) (w : World) (a : Option Addr) (len cap : Nat) (zs : List Int) : Prop :=
 (a = none ∧ len = 0 ∧ cap = 0 ∧ zs = []) ∨
 ∃ x, a = some x ∧ len ≤ cap ∧ cap ≤ maxLen ∧ zs.length = cap ∧ (∀ i, i < zs.length → w.cell? (x.add i) = some (.int k (zs.getD i 0))) ∧ ∀ n ∈ zs, (Lit.int k n).wf = true
set_option maxRecDepth 100000 in
set_option maxHeartbeats 2000000 in
theorem lifted (os : Os) (started : os.Started) (H : Type) (enc : TypeId × Value → H) :
  ReturnsInHanded {} Tryz.checked os 3 .any (fun w args => (Rows.guardChecksSpec.pre enc Tryz.prog Tryz.f3 [] false w args ∧ laidMetH Tryz.prog Rows.guardChecksRow.laid w) ∧ sizedMet enc Tryz.prog Tryz.f3 (OpenSpec.ofChange Rows.guardChecksSpec) false w args) (Rows.guardChecksSpec.post enc Tryz.prog Tryz.f3 false true false false) := by
 refine change_both (C := Tryz.checked) (X := fun w _ => laidMetH Tryz.prog Rows.guardChecksRow.laid w) (fun _ _ _ hh h => h.of_heap hh) own started (by kernel_rfl) Tryz.func3
  (ChangeSpec.witness_shaped (enc := enc) (C := Tryz.checked) (os := os) (X := fun w _ => laidMetH Tryz.prog Rows.guardChecksRow.laid w) false (World.laidAll Tryz.prog os Rows.guardChecksRow.laid) #[.agg #[.slice none 0 0, .string ByteArray.empty, .bool false], .slice none 0 0] 8 (World.laidAll_os _ _ _)
   (World.shaped_of_ZipB (by kernel_rfl) (by kernel_rfl)) (by kernel_rfl) (by kernel_rfl) (by kernel_rfl)
   (by rw [MakeChecks.laidMetH_plain _ _ _ (by kernel_rfl)]; exact laidMet_laidAll _ (by kernel_rfl) (by kernel_rfl))) ?_
 intro W base args ds gs before hval0 hW hcnd hsz0 hL hShape _
 have hG := glob_of_guardChecks hL hShape
 have hsz : (DataW.weightsEach Tryz.prog (Tryz.f3.params.toList ++ Rows.guardChecksSpec.plain.varTypes Tryz.prog) (ds ++ gs)).all (· ≤ reachBytes) = true := hsz0
 have hval : ∀ (j : Nat) t v, Tryz.f3.params[j]? = some t → args[j]? = some v → Value.okWide Tryz.prog W .any base t v := hval0
 have hW' := hW
 obtain ⟨p, q, hA0, hV, rfl, hfz, hnd⟩ := hW
 have hA : DataW.TrodAll enc Tryz.prog W 0 (fun _ => true) true Tryz.f3.params.toList args.toList ds p := hA0
 rw [Tryz.params3] at hA hval hsz
 obtain ⟨v0, vs0, d0, ds0, p0, q0, hargs, rfl, rfl, h0, r0⟩ := trodAll_cons hA
 obtain ⟨v1, vs1, d1, ds1, p1, q1, rfl, rfl, rfl, h1, r1⟩ := trodAll_cons r0
 obtain ⟨rfl, rfl, rfl⟩ := trodAll_nil r1
 obtain rfl : args = #[v0, v1] := by cases args; simp_all
 obtain ⟨rfl, rfl⟩ := trodVars_none hV
 have k0 := h0
 have lt0 : ∀ x ∈ p0, x.block < W.heap.size := by obtain ⟨m, hm⟩ := k0; exact DataW.trod_lt m _ _ _ hm
 obtain ⟨cs0, rfl, _⟩ := okWide_struct Tryz.underlying24 (hval 0 24 v0 rfl rfl)
 obtain ⟨fu0, hf0⟩ := h0
 obtain ⟨⟨l0_0, a0_1, a0_2⟩, K0, O0⟩ := ((YtacjnapgdikhbaaGreatDoorW.PrintWords.opens_struct Tryz.underlying24 (YtacjnapgdikhbaaGreatDoorW.PrintWords.at_cons rfl (by kernel_rfl) (YtacjnapgdikhbaaGreatDoorW.PrintWords.opens_slice Tryz.underlying22 (by kernel_rfl) (YtacjnapgdikhbaaGreatDoorW.PrintWords.opens_iso (fun y_ : ByteArray × ByteArray × ByteArray => (⟨y_.1, y_.2.1, y_.2.2⟩ : YtacjnapgdikhbaaGreatDoor.Q.S72)) (fun _ => rfl) (fun _ h_ => h_) (YtacjnapgdikhbaaGreatDoorW.PrintWords.opens_struct Tryz.underlying72 (YtacjnapgdikhbaaGreatDoorW.PrintWords.at_cons rfl (by kernel_rfl) (YtacjnapgdikhbaaGreatDoorW.PrintWords.opens_string Tryz.underlying9) (YtacjnapgdikhbaaGreatDoorW.PrintWords.at_cons rfl (by kernel_rfl) (YtacjnapgdikhbaaGreatDoorW.PrintWords.opens_string Tryz.underlying9) (YtacjnapgdikhbaaGreatDoorW.PrintWords.at_last rfl (by kernel_rfl) (YtacjnapgdikhbaaGreatDoorW.PrintWords.opens_string Tryz.underlying9))))) : YtacjnapgdikhbaaGreatDoorW.PrintWords.Opens enc Tryz.prog W 72 YtacjnapgdikhbaaGreatDoor.Q.k72 (fun x_ => (x_.f0.size ≤ maxLen ∧ x_.f1.size ≤ maxLen ∧ x_.f2.size ≤ maxLen)))) (YtacjnapgdikhbaaGreatDoorW.PrintWords.at_cons rfl (by kernel_rfl) (YtacjnapgdikhbaaGreatDoorW.PrintWords.opens_string Tryz.underlying9) (YtacjnapgdikhbaaGreatDoorW.PrintWords.at_last rfl (by kernel_rfl) (YtacjnapgdikhbaaGreatDoorW.PrintWords.opens_bool Tryz.underlying4))))) : YtacjnapgdikhbaaGreatDoorW.PrintWords.Opens enc Tryz.prog W 24 _ _) fu0 _ _ hf0
 obtain ⟨_, _, e0, ⟨A0_0, c0_0, rfl, hc0_0, hr0_0⟩, ⟨_, _, rfl, rfl, rfl⟩⟩ := K0
 obtain ⟨⟨hm0_0, hw0_0⟩, w0_1, _⟩ := O0
 obtain rfl : cs0 = #[.slice A0_0 l0_0.length c0_0, .string a0_1, .bool a0_2] := by cases cs0; simpa [Value.cells] using e0
 have k1 := h1
 have lt1 : ∀ x ∈ p1, x.block < W.heap.size := by obtain ⟨m, hm⟩ := k1; exact DataW.trod_lt m _ _ _ hm
 obtain ⟨va1, vl1, vc1, rfl⟩ := okWide_slice Tryz.underlying25 (hval 1 25 v1 rfl rfl)
 obtain ⟨fu1, hf1⟩ := h1
 obtain ⟨l1, K1, O1⟩ := ((YtacjnapgdikhbaaGreatDoorW.PrintWords.opens_slice Tryz.underlying25 (by kernel_rfl) (YtacjnapgdikhbaaGreatDoorW.PrintWords.opens_iso (fun y_ : ByteArray × ByteArray => (⟨y_.1, y_.2⟩ : YtacjnapgdikhbaaGreatDoor.Q.S50)) (fun _ => rfl) (fun _ h_ => h_) (YtacjnapgdikhbaaGreatDoorW.PrintWords.opens_struct Tryz.underlying50 (YtacjnapgdikhbaaGreatDoorW.PrintWords.at_cons rfl (by kernel_rfl) (YtacjnapgdikhbaaGreatDoorW.PrintWords.opens_string Tryz.underlying9) (YtacjnapgdikhbaaGreatDoorW.PrintWords.at_last rfl (by kernel_rfl) (YtacjnapgdikhbaaGreatDoorW.PrintWords.opens_string Tryz.underlying9)))) : YtacjnapgdikhbaaGreatDoorW.PrintWords.Opens enc Tryz.prog W 50 YtacjnapgdikhbaaGreatDoor.Q.k50 (fun x_ => (x_.f0.size ≤ maxLen ∧ x_.f1.size ≤ maxLen)))) : YtacjnapgdikhbaaGreatDoorW.PrintWords.Opens enc Tryz.prog W 25 (YtacjnapgdikhbaaGreatDoorW.PrintWords.Kd.slice 50 YtacjnapgdikhbaaGreatDoor.Q.k50) _) fu1 _ _ hf1
 obtain ⟨A1, c1, e1, hc1, hr1⟩ := K1
 obtain ⟨hm1, hw1⟩ := O1
 simp only [Value.cells, List.cons.injEq, Value.slice.injEq, and_true] at e1
 obtain ⟨rfl, rfl, rfl⟩ := e1
 clear hA0 hval0 hsz0 hsz
 refine (Q.postriderlaw22_GuardChecks.walk Pure.GuardChecks A0_0 c0_0 l0_0 a0_1 a0_2 _ _ l1 W hr0_0 hc0_0 hm0_0 hw0_0 w0_1 hr1 hc1 hm1 hw1 hG).mono fun e W' ⟨he, bel⟩ => ?_
 subst he
 exact ⟨_, rfl, _, _, _, [], _, [], hW', trodAll_mk1 (shut_bool Tryz.underlying4 _), (trodAll_cons_mk (Below.trod laidOut (by kernel_rfl) (of_decide_eq_true (by kernel_rfl)) k0 bel lt0) (trodAll_cons_mk (Below.trod laidOut (by kernel_rfl) (of_decide_eq_true (by kernel_rfl)) k1 bel lt1) trodAll_mk0)), rfl, bel.frame _, fun h => by cases h⟩
theorem over : Rows.guardChecksRow.holds Tryz.pinned (OpenSpec.ofChange Rows.guardChecksSpec) :=
 OpenClaim.holds_of_wide 3 Tryz.f3 rfl rfl rfl rfl rfl rfl rfl ⟨rfl, rfl, rfl, rfl, rfl⟩ rfl rfl rfl rfl rfl (by kernel_rfl) Tryz.func3 (by kernel_rfl)
  (of_decide_eq_true (by kernel_rfl)) (by unfold Func.isWrapper; first | (rw [if_pos (by decide +kernel)]; kernel_rfl) | (rw [if_neg (by decide +kernel)]; exact ⟨rfl, rfl⟩))
  (fun os started H enc _ => lifted os started H enc)
theorem card_holds : Rows.GuardChecksCardSaid :=
 Claim7.holds_tied_plain_at .later [] [.data, .data, .data, .data, .data, .pinned] true (true, "becc964eb1f037d0b794482a38c6326999c9a2c197282f9211888feb9f7c901f") false
  over (fun _ h => by cases h) (by kernel_rfl) (fun _ h => by cases h) guardChecks_row_tie rfl ⟨rfl, rfl⟩ (by kernel_rfl) rfl
  (fun f fn hf hfn => by
   obtain rfl : f = 3 := Option.some.inj ((show Tryz.prog.funcNamed "postrider/postriderlaw22.GuardChecks" = some 3 by kernel_rfl).symm.trans hf) |>.symm
   obtain rfl : fn = Tryz.f3 := (Option.some.inj (Tryz.func3.symm.trans hfn)).symm
   exact ⟨by kernel_rfl, fun j t ht => by
    have hall : (Tryz.f3.params.all fun u => !Tryz.prog.wantsStandIn u) = true := by kernel_rfl
    have h1 := (Array.all_eq_true'.1 hall) t (Array.mem_of_getElem? ht)
    exact (show Tryz.prog.wantsStandIn t = false by simpa using h1)⟩)
  (by kernel_rfl)
#print axioms card_holds
end Go.Proofs.YtacjnapgdikhbaaGreatDoor.guardChecks
namespace Go.Proofs.YtacjnapgdikhbaaGreatDoor
/-- The row, under a short name, for the claim. -/
theorem guardChecks_holds : Rows.GuardChecksCardSaid := guardChecks.card_holds
end Go.Proofs.YtacjnapgdikhbaaGreatDoor
