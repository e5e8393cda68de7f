/- The law postriderlaw07_HeadBytes holds of every input: the row, out of its plain statement and its walk. -/
import Derived.Test.YtdciiahlakgikaaDoorRows
import Derived.Test.YtdciiahlakgikaaDoorQx7
import Derived.Test.YtdciiahlakgikaaDoorPureHeadBytes
import Derived.Test.YtdciiahlakgikaaDoorR
import Derived.Test.YtdciiahlakgikaaDoorTie
import Derived.Test.YtdciiahlakgikaaDoorCards
import Derived.SevenTiedAt
import Derived.Lay
import Derived.WalkKit
import Derived.ProofKit
import Derived.OpenShut
import Derived.ShutString
import Derived.ChangeOld
import Derived.Below
import Derived.SizedLaws
import Derived.Test.YtdciiahlakgikaaDoorV
namespace Go.Proofs.YtdciiahlakgikaaDoor.headBytes
open Go.ChangeShapes Go.WideShapes Go.ChangeAt Go.RowKit
open Go.ChangeMaps (open_string shut_string)
set_option linter.unusedVariables false
theorem own : ownKnob Tryd.prog.godebug = none := by kernel_rfl
theorem laidOut : laidOutB Tryd.prog = true := by kernel_rfl
def IsRow (k : IntKind) (w : World) (a : Option Addr) (len cap : Nat) (zs : List Int) : Prop :=
  (a = none ∧ len = 0 ∧ cap = 0 ∧ zs = []) ∨
  ∃ x, a = some x ∧ len ≤ cap ∧ cap ≤ maxLen ∧ zs.length = cap ∧ (∀ i, i < zs.length → w.cell? (x.add i) = some (.int k (zs.getD i 0))) ∧ ∀ n ∈ zs, (Lit.int k n).wf = true
set_option maxRecDepth 100000 in
set_option maxHeartbeats 2000000 in
theorem lifted (os : Os) (started : os.Started) (H : Type) (enc : TypeId × Value → H) :
    ReturnsInHanded {} Tryd.checked os 7 .any (fun w args => (Rows.headBytesSpec.pre enc Tryd.prog Tryd.f7 [] false w args ∧ laidMetH Tryd.prog Rows.headBytesRow.laid w) ∧ sizedMet enc Tryd.prog Tryd.f7 (OpenSpec.ofChange Rows.headBytesSpec) false w args) (Rows.headBytesSpec.post enc Tryd.prog Tryd.f7 false true false false) := by
  refine change_both (C := Tryd.checked) (X := fun w _ => laidMetH Tryd.prog Rows.headBytesRow.laid w) (fun _ _ _ hh h => h.of_heap hh) own started (by kernel_rfl) Tryd.func7
    (ChangeSpec.witness_shaped (enc := enc) (C := Tryd.checked) (os := os) (X := fun w _ => laidMetH Tryd.prog Rows.headBytesRow.laid w) false (World.laidAll Tryd.prog os Rows.headBytesRow.laid) #[.slice none 0 0, .string ByteArray.empty, .agg #[.string ByteArray.empty, .int .u8 0, .bool false]] 8 (World.laidAll_os _ _ _)
      (World.shaped_of_ZipB (by kernel_rfl) (by kernel_rfl)) (by kernel_rfl) (by kernel_rfl) (by kernel_rfl)
      (by rw [MakeChecks.laidMetH_plain _ _ _ (by kernel_rfl)]; exact laidMet_laidAll _ (by kernel_rfl) (by kernel_rfl))) ?_
  intro W base args ds gs before hval0 hW hcnd hsz0 hL hShape _
  have hG := glob_of_headBytes hL hShape
  have hsz : (DataW.weightsEach Tryd.prog (Tryd.f7.params.toList ++ Rows.headBytesSpec.plain.varTypes Tryd.prog) (ds ++ gs)).all (· ≤ reachBytes) = true := hsz0
  have hval : ∀ (j : Nat) t v, Tryd.f7.params[j]? = some t → args[j]? = some v → Value.okWide Tryd.prog W .any base t v := hval0
  have hW' := hW
  obtain ⟨p, q, hA0, hV, rfl, hfz, hnd⟩ := hW
  have hA : DataW.TrodAll enc Tryd.prog W 0 (fun _ => true) true Tryd.f7.params.toList args.toList ds p := hA0
  rw [Tryd.params7] at hA hval hsz
  obtain ⟨v0, vs0, d0, ds0, p0, q0, hargs, rfl, rfl, h0, r0⟩ := trodAll_cons hA
  obtain ⟨v1, vs1, d1, ds1, p1, q1, rfl, rfl, rfl, h1, r1⟩ := trodAll_cons r0
  obtain ⟨v2, vs2, d2, ds2, p2, q2, rfl, rfl, rfl, h2, r2⟩ := trodAll_cons r1
  obtain ⟨rfl, rfl, rfl⟩ := trodAll_nil r2
  obtain rfl : args = #[v0, v1, v2] := by cases args; simp_all
  obtain ⟨rfl, rfl⟩ := trodVars_none hV
  have k0 := h0
  have lt0 : ∀ x ∈ p0, x.block < W.heap.size := by obtain ⟨m, hm⟩ := k0; exact DataW.trod_lt m _ _ _ hm
  obtain ⟨va0, vl0, vc0, rfl⟩ := okWide_slice Tryd.underlying68 (hval 0 68 v0 rfl rfl)
  obtain ⟨fu0, hf0⟩ := h0
  obtain ⟨l0, K0, O0⟩ := ((YtdciiahlakgikaaDoorW.PrintWords.opens_slice Tryd.underlying68 (by kernel_rfl) (YtdciiahlakgikaaDoorW.PrintWords.opens_iso (fun y_ : ByteArray × ByteArray × Int => (⟨y_.1, y_.2.1, y_.2.2⟩ : YtdciiahlakgikaaDoor.Q.S111)) (fun _ => rfl) (fun _ h_ => h_) (YtdciiahlakgikaaDoorW.PrintWords.opens_struct Tryd.underlying111 (YtdciiahlakgikaaDoorW.PrintWords.at_cons rfl (by kernel_rfl) (YtdciiahlakgikaaDoorW.PrintWords.opens_string Tryd.underlying9) (YtdciiahlakgikaaDoorW.PrintWords.at_cons rfl (by kernel_rfl) (YtdciiahlakgikaaDoorW.PrintWords.opens_string Tryd.underlying9) (YtdciiahlakgikaaDoorW.PrintWords.at_last rfl (by kernel_rfl) (YtdciiahlakgikaaDoorW.PrintWords.opens_int Tryd.underlying5))))) : YtdciiahlakgikaaDoorW.PrintWords.Opens enc Tryd.prog W 111 YtdciiahlakgikaaDoor.Q.k111 (fun x_ => (x_.f0.size ≤ maxLen ∧ x_.f1.size ≤ maxLen ∧ (Lit.int .u8 x_.f2).wf = true)))) : YtdciiahlakgikaaDoorW.PrintWords.Opens enc Tryd.prog W 68 (YtdciiahlakgikaaDoorW.PrintWords.Kd.slice 111 YtdciiahlakgikaaDoor.Q.k111) _) fu0 _ _ hf0
  obtain ⟨A0, c0, e0, hc0, hr0⟩ := K0
  obtain ⟨hm0, hw0⟩ := O0
  simp only [Value.cells, List.cons.injEq, Value.slice.injEq, and_true] at e0
  obtain ⟨rfl, rfl, rfl⟩ := e0
  obtain ⟨a1, rfl, rfl, rfl, y1⟩ := open_string Tryd.underlying9 (hval 1 9 v1 rfl rfl) h1
  have w1 : a1.size ≤ 140737488351232 := by
    have z := sized_string hsz (j := 1) (t := 9) rfl rfl
    rw [Array.length_toList] at z
    exact z
  have k2 := h2
  have lt2 : ∀ x ∈ p2, x.block < W.heap.size := by obtain ⟨m, hm⟩ := k2; exact DataW.trod_lt m _ _ _ hm
  obtain ⟨cs2, rfl, _⟩ := okWide_struct Tryd.underlying70 (hval 2 70 v2 rfl rfl)
  obtain ⟨fu2, hf2⟩ := h2
  obtain ⟨⟨a2_0, a2_1, a2_2⟩, K2, O2⟩ := ((YtdciiahlakgikaaDoorW.PrintWords.opens_struct Tryd.underlying70 (YtdciiahlakgikaaDoorW.PrintWords.at_cons rfl (by kernel_rfl) (YtdciiahlakgikaaDoorW.PrintWords.opens_string Tryd.underlying9) (YtdciiahlakgikaaDoorW.PrintWords.at_cons rfl (by kernel_rfl) (YtdciiahlakgikaaDoorW.PrintWords.opens_int Tryd.underlying5) (YtdciiahlakgikaaDoorW.PrintWords.at_last rfl (by kernel_rfl) (YtdciiahlakgikaaDoorW.PrintWords.opens_bool Tryd.underlying4))))) : YtdciiahlakgikaaDoorW.PrintWords.Opens enc Tryd.prog W 70 _ _) fu2 _ _ hf2
  obtain ⟨_, _, e2, rfl, ⟨_, _, rfl, rfl, rfl⟩⟩ := K2
  obtain ⟨w2_0, w2_1, _⟩ := O2
  obtain rfl : cs2 = #[.string a2_0, .int .u8 a2_1, .bool a2_2] := by cases cs2; simpa [Value.cells] using e2
  clear hA0 hval0 hsz0 hsz
  refine (Q.postriderlaw07_HeadBytes.walk Pure.HeadBytes _ _ l0 a1 a2_0 a2_1 a2_2 W hr0 hc0 hm0 hw0 w1 w2_0 w2_1 hG).mono fun e W' ⟨he, bel⟩ => ?_
  subst he
  exact ⟨_, rfl, _, _, _, [], _, [], hW', trodAll_mk1 (shut_bool Tryd.underlying4 _), (trodAll_cons_mk (Below.trod laidOut (by kernel_rfl) (of_decide_eq_true (by kernel_rfl)) k0 bel lt0) (trodAll_cons_mk (shut_string Tryd.underlying9 y1) (trodAll_cons_mk (Below.trod laidOut (by kernel_rfl) (of_decide_eq_true (by kernel_rfl)) k2 bel lt2) trodAll_mk0))), rfl, bel.frame _, fun h => by cases h⟩
theorem over : Rows.headBytesRow.holds Tryd.pinned (OpenSpec.ofChange Rows.headBytesSpec) :=
  OpenClaim.holds_of_wide 7 Tryd.f7 rfl rfl rfl rfl rfl rfl rfl ⟨rfl, rfl, rfl, rfl, rfl⟩ rfl rfl rfl rfl rfl (by kernel_rfl) Tryd.func7 (by kernel_rfl)
    (of_decide_eq_true (by kernel_rfl)) (by unfold Func.isWrapper; first | (rw [if_pos (by decide +kernel)]; kernel_rfl) | (rw [if_neg (by decide +kernel)]; exact ⟨rfl, rfl⟩))
    (fun os started H enc _ => lifted os started H enc)
theorem card_holds : Rows.HeadBytesCardSaid :=
  Claim7.holds_tied_plain_at .later [] [.data, .pinned] true (true, "20953892914c65219343c7d77f799b5fa8c1c12a0915f66fe6d26ecf136ab7a8") false
    over (fun _ h => by cases h) (by kernel_rfl) (fun _ h => by cases h) headBytes_row_tie rfl ⟨rfl, rfl⟩ (by kernel_rfl) rfl
    (fun f fn hf hfn => by
      obtain rfl : f = 7 := Option.some.inj ((show Tryd.prog.funcNamed "postrider/postriderlaw07.HeadBytes" = some 7 by kernel_rfl).symm.trans hf) |>.symm
      obtain rfl : fn = Tryd.f7 := (Option.some.inj (Tryd.func7.symm.trans hfn)).symm
      exact ⟨by kernel_rfl, fun j t ht => by
        have hall : (Tryd.f7.params.all fun u => !Tryd.prog.wantsStandIn u) = true := by kernel_rfl
        have h1 := (Array.all_eq_true'.1 hall) t (Array.mem_of_getElem? ht)
        exact (show Tryd.prog.wantsStandIn t = false by simpa using h1)⟩)
    (by kernel_rfl)
#print axioms card_holds
end Go.Proofs.YtdciiahlakgikaaDoor.headBytes
namespace Go.Proofs.YtdciiahlakgikaaDoor
/-- The row, under a short name, for the claim. -/
theorem headBytes_holds : Rows.HeadBytesCardSaid := headBytes.card_holds
end Go.Proofs.YtdciiahlakgikaaDoor
