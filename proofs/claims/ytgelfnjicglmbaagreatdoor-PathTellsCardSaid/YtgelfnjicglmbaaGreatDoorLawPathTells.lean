/- The law postriderlaw06_PathTells holds of every input: the row, out of its plain statement and its walk. -/
import Derived.Test.YtgelfnjicglmbaaGreatDoorRows
import Derived.Test.YtgelfnjicglmbaaGreatDoorQx14
import Derived.Test.YtgelfnjicglmbaaGreatDoorPurePathTells
import Derived.Test.YtgelfnjicglmbaaGreatDoorR
import Derived.Test.YtgelfnjicglmbaaGreatDoorTie
import Derived.Test.YtgelfnjicglmbaaGreatDoorCards
import Derived.SevenTiedAt
import Derived.Lay
import Derived.LaidMore
import Derived.LaidHandle
import Derived.LaidByTextLater
import Derived.WalkKit
import Derived.ProofKit
import Derived.OpenShut
import Derived.ShutString
import Derived.ChangeOld
import Derived.Below
import Derived.SizedLaws
import Derived.Test.YtgelfnjicglmbaaGreatDoorV
namespace Go.Proofs.YtgelfnjicglmbaaGreatDoor.pathTells
open Go.ChangeShapes Go.WideShapes Go.ChangeAt Go.RowKit
open Go.ChangeMaps (open_string shut_string)
set_option linter.unusedVariables false
theorem own : ownKnob Tryz.prog.godebug = none := by kernel_rfl
theorem laidOut : laidOutB Tryz.prog = true := by kernel_rfl
def IsRow (k : IntKind) (w : World) (a : Option Addr) (len cap : Nat) (zs : List Int) : Prop :=
 (a = none ∧ len = 0 ∧ cap = 0 ∧ zs = []) ∨
 ∃ x, a = some x ∧ len ≤ cap ∧ cap ≤ maxLen ∧ zs.length = cap ∧ (∀ i, i < zs.length → w.cell? (x.add i) = some (.int k (zs.getD i 0))) ∧ ∀ n ∈ zs, (Lit.int k n).wf = true
set_option maxRecDepth 100000 in
theorem lifted (os : Os) (started : os.Started) (H : Type) (enc : TypeId × Value → H) :
  ReturnsInHanded {} Tryz.checked os 3 .any (fun w args => (Rows.pathTellsSpec.pre enc Tryz.prog Tryz.f3 [] false w args ∧ laidMetH Tryz.prog Rows.pathTellsRow.laid w) ∧ sizedMet enc Tryz.prog Tryz.f3 (OpenSpec.ofChange Rows.pathTellsSpec) false w args) (Rows.pathTellsSpec.post enc Tryz.prog Tryz.f3 false true false false) := by
 refine change_both (C := Tryz.checked) (X := fun w _ => laidMetH Tryz.prog Rows.pathTellsRow.laid w) (fun _ _ _ hh h => h.of_heap hh) own started (by kernel_rfl) Tryz.func3
  (ChangeSpec.witness_shaped (enc := enc) (C := Tryz.checked) (os := os) (X := fun w _ => laidMetH Tryz.prog Rows.pathTellsRow.laid w) false ((World.doorLaid Tryz.prog 54 os).layVars Tryz.prog [("unicode/utf8.first", Rows.laid_unicode_utf8_first)]) #[.agg #[.bool false, .bool false, .slice none 0 0, .string ByteArray.empty, .string ByteArray.empty]] 8 (World.layVars_os _ _ _)
   (World.shaped_of_ZipB (by kernel_rfl) (by kernel_rfl)) (by kernel_rfl) (by kernel_rfl) (by kernel_rfl)
   (laidMetH_of_parts3 (fuel := 8) (laidMet_of_run' 8 (by kernel_rfl) (by kernel_rfl)) (by kernel_rfl) (by kernel_rfl))) ?_
 intro W base args ds gs before hval0 hW hcnd hsz0 hL hShape _
 have hG := glob_of_pathTells hL hShape
 have hsz : (DataW.weightsEach Tryz.prog (Tryz.f3.params.toList ++ Rows.pathTellsSpec.plain.varTypes Tryz.prog) (ds ++ gs)).all (· ≤ reachBytes) = true := hsz0
 have hval : ∀ (j : Nat) t v, Tryz.f3.params[j]? = some t → args[j]? = some v → Value.okWide Tryz.prog W .any base t v := hval0
 have hW' := hW
 obtain ⟨p, q, hA0, hV, rfl, hfz, hnd⟩ := hW
 have hA : DataW.TrodAll enc Tryz.prog W 0 (fun _ => true) true Tryz.f3.params.toList args.toList ds p := hA0
 rw [Tryz.params3] at hA hval hsz
 obtain ⟨v0, vs0, d0, ds0, p0, q0, hargs, rfl, rfl, h0, r0⟩ := trodAll_cons hA
 obtain ⟨rfl, rfl, rfl⟩ := trodAll_nil r0
 obtain rfl : args = #[v0] := by cases args; simp_all
 obtain ⟨rfl, rfl⟩ := trodVars_none hV
 have k0 := h0
 have lt0 : ∀ x ∈ p0, x.block < W.heap.size := by obtain ⟨m, hm⟩ := k0; exact DataW.trod_lt m _ _ _ hm
 obtain ⟨cs0, rfl, _⟩ := okWide_struct Tryz.underlying26 (hval 0 26 v0 rfl rfl)
 obtain ⟨fu0, hf0⟩ := h0
 obtain ⟨⟨a0_0, a0_1, l0_2, ⟨a0_3, a0_4⟩⟩, K0, O0⟩ := ((YtgelfnjicglmbaaGreatDoorW.PrintWords.opens_struct Tryz.underlying26 (YtgelfnjicglmbaaGreatDoorW.PrintWords.at_cons rfl (by kernel_rfl) (YtgelfnjicglmbaaGreatDoorW.PrintWords.opens_bool Tryz.underlying4) (YtgelfnjicglmbaaGreatDoorW.PrintWords.at_cons rfl (by kernel_rfl) (YtgelfnjicglmbaaGreatDoorW.PrintWords.opens_bool Tryz.underlying4) (YtgelfnjicglmbaaGreatDoorW.PrintWords.at_cons rfl (by kernel_rfl) (YtgelfnjicglmbaaGreatDoorW.PrintWords.opens_slice Tryz.underlying22 (by kernel_rfl) (YtgelfnjicglmbaaGreatDoorW.PrintWords.opens_string Tryz.underlying9)) (YtgelfnjicglmbaaGreatDoorW.PrintWords.at_last rfl (by kernel_rfl) (YtgelfnjicglmbaaGreatDoorW.PrintWords.opens_struct Tryz.underlying24 (YtgelfnjicglmbaaGreatDoorW.PrintWords.at_cons rfl (by kernel_rfl) (YtgelfnjicglmbaaGreatDoorW.PrintWords.opens_string Tryz.underlying9) (YtgelfnjicglmbaaGreatDoorW.PrintWords.at_last rfl (by kernel_rfl) (YtgelfnjicglmbaaGreatDoorW.PrintWords.opens_string Tryz.underlying9))))))))) : YtgelfnjicglmbaaGreatDoorW.PrintWords.Opens enc Tryz.prog W 26 _ _) fu0 _ _ hf0
 obtain ⟨_, _, e0, rfl, ⟨_, _, rfl, rfl, ⟨_, _, rfl, ⟨A0_2, c0_2, rfl, hc0_2, hr0_2⟩, ⟨_, _, rfl, rfl, rfl⟩⟩⟩⟩ := K0
 obtain ⟨_, _, ⟨hm0_2, hw0_2⟩, ⟨w0_3, w0_4⟩⟩ := O0
 obtain rfl : cs0 = #[.bool a0_0, .bool a0_1, .slice A0_2 l0_2.length c0_2, .string a0_3, .string a0_4] := by cases cs0; simpa [Value.cells] using e0
 clear hA0 hval0 hsz0 hsz
 refine (Q.postriderlaw06_PathTells.walk Pure.PathTells a0_0 a0_1 A0_2 c0_2 l0_2 a0_3 a0_4 W hr0_2 hc0_2 hm0_2 hw0_2 w0_3 w0_4 hG).mono fun e W' ⟨he, bel⟩ => ?_
 subst he
 exact ⟨_, rfl, _, _, _, [], _, [], hW', trodAll_mk1 (shut_bool Tryz.underlying4 _), (trodAll_cons_mk (Below.trod laidOut (by kernel_rfl) (of_decide_eq_true (by kernel_rfl)) k0 bel lt0) trodAll_mk0), rfl, bel.frame _, fun h => by cases h⟩
theorem over : Rows.pathTellsRow.holds Tryz.pinned (OpenSpec.ofChange Rows.pathTellsSpec) :=
 OpenClaim.holds_of_wide 3 Tryz.f3 rfl rfl rfl rfl rfl rfl rfl ⟨rfl, rfl, rfl, rfl, rfl⟩ rfl rfl rfl rfl rfl (by kernel_rfl) Tryz.func3 (by kernel_rfl)
  (of_decide_eq_true (by kernel_rfl)) (by unfold Func.isWrapper; first | (rw [if_pos (by decide +kernel)]; kernel_rfl) | (rw [if_neg (by decide +kernel)]; exact ⟨rfl, rfl⟩))
  (fun os started H enc _ => lifted os started H enc)
theorem card_holds : Rows.PathTellsCardSaid :=
 Claim7.holds_tied_plain_at .later [] [.data, .data, .data, .data, .data, .funcs, .pinned] true (true, "dfbaf619084a37e5ddf55e09f36de56a754ffb01922194f7b93c4ecd59bb3254") false
  over (fun _ h => by cases h) (by kernel_rfl) (fun _ h => by cases h) pathTells_row_tie rfl ⟨rfl, rfl⟩ (by kernel_rfl) rfl
  (fun f fn hf hfn => by
   obtain rfl : f = 3 := Option.some.inj ((show Tryz.prog.funcNamed "postrider/postriderlaw06.PathTells" = some 3 by kernel_rfl).symm.trans hf) |>.symm
   obtain rfl : fn = Tryz.f3 := (Option.some.inj (Tryz.func3.symm.trans hfn)).symm
   exact ⟨by kernel_rfl, fun j t ht => by
    have hall : (Tryz.f3.params.all fun u => !Tryz.prog.wantsStandIn u) = true := by kernel_rfl
    have h1 := (Array.all_eq_true'.1 hall) t (Array.mem_of_getElem? ht)
    exact (show Tryz.prog.wantsStandIn t = false by simpa using h1)⟩)
  (by kernel_rfl)
#print axioms card_holds
end Go.Proofs.YtgelfnjicglmbaaGreatDoor.pathTells
namespace Go.Proofs.YtgelfnjicglmbaaGreatDoor
/-- The row, under a short name, for the claim. -/
theorem pathTells_holds : Rows.PathTellsCardSaid := pathTells.card_holds
end Go.Proofs.YtgelfnjicglmbaaGreatDoor
