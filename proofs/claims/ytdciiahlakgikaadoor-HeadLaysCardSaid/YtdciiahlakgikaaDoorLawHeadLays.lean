/- The law postriderlaw07_HeadLays holds of every input: the row, out of its plain statement and its walk. -/
import Derived.Test.YtdciiahlakgikaaDoorRows
import Derived.Test.YtdciiahlakgikaaDoorQx13
import Derived.Test.YtdciiahlakgikaaDoorPureHeadLays
import Derived.Test.YtdciiahlakgikaaDoorR
import Derived.Test.YtdciiahlakgikaaDoorTie
import Derived.Test.YtdciiahlakgikaaDoorCards
import Derived.SevenTiedAt
import Derived.Lay
import Derived.WalkKit
import Derived.ProofKit
import Derived.OpenShut
import Derived.ShutString
import Derived.ChangeOld
import Derived.Below
import Derived.SizedLaws
import Derived.Test.YtdciiahlakgikaaDoorV
namespace Go.Proofs.YtdciiahlakgikaaDoor.headLays
open Go.ChangeShapes Go.WideShapes Go.ChangeAt Go.RowKit
open Go.ChangeMaps (open_string shut_string)
set_option linter.unusedVariables false
theorem own : ownKnob Tryd.prog.godebug = none := by kernel_rfl
theorem laidOut : laidOutB Tryd.prog = true := by kernel_rfl
def IsRow (k : IntKind) (w : World) (a : Option Addr) (len cap : Nat) (zs : List Int) : Prop :=
  (a = none ∧ len = 0 ∧ cap = 0 ∧ zs = []) ∨
  ∃ x, a = some x ∧ len ≤ cap ∧ cap ≤ maxLen ∧ zs.length = cap ∧ (∀ i, i < zs.length → w.cell? (x.add i) = some (.int k (zs.getD i 0))) ∧ ∀ n ∈ zs, (Lit.int k n).wf = true
set_option maxRecDepth 100000 in
theorem lifted (os : Os) (started : os.Started) (H : Type) (enc : TypeId × Value → H) :
    ReturnsInHanded {} Tryd.checked os 6 .any (fun w args => (Rows.headLaysSpec.pre enc Tryd.prog Tryd.f6 [] false w args ∧ laidMetH Tryd.prog Rows.headLaysRow.laid w) ∧ sizedMet enc Tryd.prog Tryd.f6 (OpenSpec.ofChange Rows.headLaysSpec) false w args) (Rows.headLaysSpec.post enc Tryd.prog Tryd.f6 false true false false) := by
  refine change_both (C := Tryd.checked) (X := fun w _ => laidMetH Tryd.prog Rows.headLaysRow.laid w) (fun _ _ _ hh h => h.of_heap hh) own started (by kernel_rfl) Tryd.func6
    (ChangeSpec.witness_shaped (enc := enc) (C := Tryd.checked) (os := os) (X := fun w _ => laidMetH Tryd.prog Rows.headLaysRow.laid w) false (World.laidAll Tryd.prog os Rows.headLaysRow.laid) #[.agg #[.slice none 0 0, .string ByteArray.empty, .bool false], .agg #[.string ByteArray.empty, .string ByteArray.empty, .int .i64 0]] 8 (World.laidAll_os _ _ _)
      (World.shaped_of_ZipB (by kernel_rfl) (by kernel_rfl)) (by kernel_rfl) (by kernel_rfl) (by kernel_rfl)
      (by rw [MakeChecks.laidMetH_plain _ _ _ (by kernel_rfl)]; exact laidMet_laidAll _ (by kernel_rfl) (by kernel_rfl))) ?_
  intro W base args ds gs before hval0 hW hcnd hsz0 hL hShape _
  have hG := glob_of_headLays hL hShape
  have hsz : (DataW.weightsEach Tryd.prog (Tryd.f6.params.toList ++ Rows.headLaysSpec.plain.varTypes Tryd.prog) (ds ++ gs)).all (· ≤ reachBytes) = true := hsz0
  have hval : ∀ (j : Nat) t v, Tryd.f6.params[j]? = some t → args[j]? = some v → Value.okWide Tryd.prog W .any base t v := hval0
  have hW' := hW
  obtain ⟨p, q, hA0, hV, rfl, hfz, hnd⟩ := hW
  have hA : DataW.TrodAll enc Tryd.prog W 0 (fun _ => true) true Tryd.f6.params.toList args.toList ds p := hA0
  rw [Tryd.params6] at hA hval hsz
  obtain ⟨v0, vs0, d0, ds0, p0, q0, hargs, rfl, rfl, h0, r0⟩ := trodAll_cons hA
  obtain ⟨v1, vs1, d1, ds1, p1, q1, rfl, rfl, rfl, h1, r1⟩ := trodAll_cons r0
  obtain ⟨rfl, rfl, rfl⟩ := trodAll_nil r1
  obtain rfl : args = #[v0, v1] := by cases args; simp_all
  obtain ⟨rfl, rfl⟩ := trodVars_none hV
  have k0 := h0
  have lt0 : ∀ x ∈ p0, x.block < W.heap.size := by obtain ⟨m, hm⟩ := k0; exact DataW.trod_lt m _ _ _ hm
  obtain ⟨cs0, rfl, _⟩ := okWide_struct Tryd.underlying24 (hval 0 24 v0 rfl rfl)
  obtain ⟨fu0, hf0⟩ := h0
  obtain ⟨⟨l0_0, a0_1, a0_2⟩, K0, O0⟩ := ((YtdciiahlakgikaaDoorW.PrintWords.opens_struct Tryd.underlying24 (YtdciiahlakgikaaDoorW.PrintWords.at_cons rfl (by kernel_rfl) (YtdciiahlakgikaaDoorW.PrintWords.opens_slice Tryd.underlying22 (by kernel_rfl) (YtdciiahlakgikaaDoorW.PrintWords.opens_iso (fun y_ : ByteArray × ByteArray × ByteArray => (⟨y_.1, y_.2.1, y_.2.2⟩ : YtdciiahlakgikaaDoor.Q.S41)) (fun _ => rfl) (fun _ h_ => h_) (YtdciiahlakgikaaDoorW.PrintWords.opens_struct Tryd.underlying41 (YtdciiahlakgikaaDoorW.PrintWords.at_cons rfl (by kernel_rfl) (YtdciiahlakgikaaDoorW.PrintWords.opens_string Tryd.underlying9) (YtdciiahlakgikaaDoorW.PrintWords.at_cons rfl (by kernel_rfl) (YtdciiahlakgikaaDoorW.PrintWords.opens_string Tryd.underlying9) (YtdciiahlakgikaaDoorW.PrintWords.at_last rfl (by kernel_rfl) (YtdciiahlakgikaaDoorW.PrintWords.opens_string Tryd.underlying9))))) : YtdciiahlakgikaaDoorW.PrintWords.Opens enc Tryd.prog W 41 YtdciiahlakgikaaDoor.Q.k41 (fun x_ => (x_.f0.size ≤ maxLen ∧ x_.f1.size ≤ maxLen ∧ x_.f2.size ≤ maxLen)))) (YtdciiahlakgikaaDoorW.PrintWords.at_cons rfl (by kernel_rfl) (YtdciiahlakgikaaDoorW.PrintWords.opens_string Tryd.underlying9) (YtdciiahlakgikaaDoorW.PrintWords.at_last rfl (by kernel_rfl) (YtdciiahlakgikaaDoorW.PrintWords.opens_bool Tryd.underlying4))))) : YtdciiahlakgikaaDoorW.PrintWords.Opens enc Tryd.prog W 24 _ _) fu0 _ _ hf0
  obtain ⟨_, _, e0, ⟨A0_0, c0_0, rfl, hc0_0, hr0_0⟩, ⟨_, _, rfl, rfl, rfl⟩⟩ := K0
  obtain ⟨⟨hm0_0, hw0_0⟩, w0_1, _⟩ := O0
  obtain rfl : cs0 = #[.slice A0_0 l0_0.length c0_0, .string a0_1, .bool a0_2] := by cases cs0; simpa [Value.cells] using e0
  have k1 := h1
  have lt1 : ∀ x ∈ p1, x.block < W.heap.size := by obtain ⟨m, hm⟩ := k1; exact DataW.trod_lt m _ _ _ hm
  obtain ⟨cs1, rfl, _⟩ := okWide_struct Tryd.underlying59 (hval 1 59 v1 rfl rfl)
  obtain ⟨fu1, hf1⟩ := h1
  obtain ⟨⟨a1_0, a1_1, a1_2⟩, K1, O1⟩ := ((YtdciiahlakgikaaDoorW.PrintWords.opens_struct Tryd.underlying59 (YtdciiahlakgikaaDoorW.PrintWords.at_cons rfl (by kernel_rfl) (YtdciiahlakgikaaDoorW.PrintWords.opens_string Tryd.underlying9) (YtdciiahlakgikaaDoorW.PrintWords.at_cons rfl (by kernel_rfl) (YtdciiahlakgikaaDoorW.PrintWords.opens_string Tryd.underlying9) (YtdciiahlakgikaaDoorW.PrintWords.at_last rfl (by kernel_rfl) (YtdciiahlakgikaaDoorW.PrintWords.opens_int Tryd.underlying3))))) : YtdciiahlakgikaaDoorW.PrintWords.Opens enc Tryd.prog W 59 _ _) fu1 _ _ hf1
  obtain ⟨_, _, e1, rfl, ⟨_, _, rfl, rfl, rfl⟩⟩ := K1
  obtain ⟨w1_0, w1_1, w1_2⟩ := O1
  obtain rfl : cs1 = #[.string a1_0, .string a1_1, .int .i64 a1_2] := by cases cs1; simpa [Value.cells] using e1
  clear hA0 hval0 hsz0 hsz
  refine (Q.postriderlaw07_HeadLays.walk Pure.HeadLays A0_0 c0_0 l0_0 a0_1 a0_2 a1_0 a1_1 a1_2 W hr0_0 hc0_0 hm0_0 hw0_0 w0_1 w1_0 w1_1 w1_2 hG).mono fun e W' ⟨he, bel⟩ => ?_
  subst he
  exact ⟨_, rfl, _, _, _, [], _, [], hW', trodAll_mk1 (shut_bool Tryd.underlying4 _), (trodAll_cons_mk (Below.trod laidOut (by kernel_rfl) (of_decide_eq_true (by kernel_rfl)) k0 bel lt0) (trodAll_cons_mk (Below.trod laidOut (by kernel_rfl) (of_decide_eq_true (by kernel_rfl)) k1 bel lt1) trodAll_mk0)), rfl, bel.frame _, fun h => by cases h⟩
theorem over : Rows.headLaysRow.holds Tryd.pinned (OpenSpec.ofChange Rows.headLaysSpec) :=
  OpenClaim.holds_of_wide 6 Tryd.f6 rfl rfl rfl rfl rfl rfl rfl ⟨rfl, rfl, rfl, rfl, rfl⟩ rfl rfl rfl rfl rfl (by kernel_rfl) Tryd.func6 (by kernel_rfl)
    (of_decide_eq_true (by kernel_rfl)) (by unfold Func.isWrapper; first | (rw [if_pos (by decide +kernel)]; kernel_rfl) | (rw [if_neg (by decide +kernel)]; exact ⟨rfl, rfl⟩))
    (fun os started H enc _ => lifted os started H enc)
theorem card_holds : Rows.HeadLaysCardSaid :=
  Claim7.holds_tied_plain_at .later [] [.data, .pinned] true (true, "20953892914c65219343c7d77f799b5fa8c1c12a0915f66fe6d26ecf136ab7a8") false
    over (fun _ h => by cases h) (by kernel_rfl) (fun _ h => by cases h) headLays_row_tie rfl ⟨rfl, rfl⟩ (by kernel_rfl) rfl
    (fun f fn hf hfn => by
      obtain rfl : f = 6 := Option.some.inj ((show Tryd.prog.funcNamed "postrider/postriderlaw07.HeadLays" = some 6 by kernel_rfl).symm.trans hf) |>.symm
      obtain rfl : fn = Tryd.f6 := (Option.some.inj (Tryd.func6.symm.trans hfn)).symm
      exact ⟨by kernel_rfl, fun j t ht => by
        have hall : (Tryd.f6.params.all fun u => !Tryd.prog.wantsStandIn u) = true := by kernel_rfl
        have h1 := (Array.all_eq_true'.1 hall) t (Array.mem_of_getElem? ht)
        exact (show Tryd.prog.wantsStandIn t = false by simpa using h1)⟩)
    (by kernel_rfl)
#print axioms card_holds
end Go.Proofs.YtdciiahlakgikaaDoor.headLays
namespace Go.Proofs.YtdciiahlakgikaaDoor
/-- The row, under a short name, for the claim. -/
theorem headLays_holds : Rows.HeadLaysCardSaid := headLays.card_holds
end Go.Proofs.YtdciiahlakgikaaDoor
