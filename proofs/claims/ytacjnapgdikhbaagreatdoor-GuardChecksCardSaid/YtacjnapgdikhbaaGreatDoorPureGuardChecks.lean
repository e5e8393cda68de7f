/- Hops, marks, and who is refused, of any message: as the document says. -/
import Derived.Test.YtacjnapgdikhbaaGreatDoorAG
import Derived.Test.YtacjnapgdikhbaaGreatDoorQx18
import Derived.Test.YtacjnapgdikhbaaGreatDoorQx21
namespace Go.Proofs.YtacjnapgdikhbaaGreatDoor.Pure
open Go.RowKit Go.Proofs.YtacjnapgdikhbaaGreatDoor.Q Go.Proofs.YtacjnapgdikhbaaGreatDoor.S Go.Proofs.YtacjnapgdikhbaaGreatDoorW.PrintWords Go.Proofs.YtacjnapgdikhbaaGreatDoorW.PrintLast Go.Proofs.YtacjnapgdikhbaaGreatDoorW.PrintMore
set_option linter.unusedVariables false
set_option linter.unusedSimpArgs false
set_option maxRecDepth 100000 in
theorem tells_t : Ev (fun k => postriderlaw22_tells.f k) true := Ev.of postriderlaw22_tells.mono (k := 60) (by decide +kernel)
theorem fl_l0 {X : List S52} (hX : X.length ≤ 1000000) : ∀ (d j : Nat), j + d = X.length → Ev (fun k => postriderlaw22_GuardChecks.l0 k X (X.map cvX) (j : Int)) true := by
 intro d
 induction d with
 | zero =>
  intro j h
  refine Ev.eq (f := fun k => (postriderlaw22_tells.f k).bind fun t450 => (some t450)) (fun k => ?_) (Ev.bind2 tells_t (Ev.pure _))
  simp only [postriderlaw22_GuardChecks.l0]
  rw [if_neg (by omega)]
 | succ d ih =>
  intro j h
  have hj : j < X.length := by omega
  have ih1 : (j + 1) + d = X.length := by omega
  have k1 : (j : Int) < (X.length : Int) := by omega
  have k2 : (0 : Int) ≤ (j : Int) := Int.natCast_nonneg _
  have k3 : (j : Int) < ((X.map cvX).length : Int) := by rw [List.length_map]; omega
  have ew := w1 (n := j) (m := X.length) hj (by omega)
  have hr : rd_T48 (X.map cvX) (j : Int) = cvX (X[j]'hj) := by rw [rd48 _ j (by rw [List.length_map]; omega), List.getElem_map]
  refine Ev.eq (f := fun k => postriderlaw22_GuardChecks.l0 k X (X.map cvX) ((j + 1 : Nat) : Int)) (fun k => ?_) (ih (j + 1) ih1)
  simp only [postriderlaw22_GuardChecks.l0]
  rw [if_pos k1, if_pos k2, rd52 X j hj, hr, ew]
  unfold postriderlaw20_Failure.f
  rw [Option.bind_some, if_pos k3, if_neg]
  simp [cvX, cvA]
theorem GuardChecks : postriderlaw22_GuardChecks.Pure := by
 intro l b e rc hl hf hb hr hs
 refine Ev.to ?_
 unfold postriderlaw22_GuardChecks.f
 have hmax : maxLen = 9223372036854775807 := rfl
 refine Ev.bind2 (few_f (by omega) b e) ?_
 refine Ev.bind2 (short_f (by omega)) ?_
 obtain ⟨m, hm⟩ : ∃ m, m = (l.take 15).map cutF := ⟨_, rfl⟩
 obtain ⟨tt, htt⟩ : ∃ tt, tt = (rc.take 20).map cutA := ⟨_, rfl⟩
 obtain ⟨b1, hb1⟩ : ∃ b1, b1 = B ((L b).take 1000) := ⟨_, rfl⟩
 have m0 : m.length ≤ 1000000 := by rw [hm, List.length_map, List.length_take]; omega
 have t0 : tt.length ≤ 1000000 := by rw [htt, List.length_map, List.length_take]; omega
 have m1 : ∀ x ∈ m, x.f0.size ≤ 1000000 := by
  intro x hx
  rw [hm] at hx
  obtain ⟨y, _, rfl⟩ := List.mem_map.1 hx
  simp only [cutF, B_size, List.length_take]; omega
 have m2 : ∀ x ∈ m, x.f1.size ≤ 1000000 := by
  intro x hx
  rw [hm] at hx
  obtain ⟨y, _, rfl⟩ := List.mem_map.1 hx
  simp only [cutF, B_size, List.length_take]; omega
 have t1 : ∀ a ∈ tt, a.f0.size ≤ 1000000 ∧ a.f1.size ≤ 1000000 := by
  intro x hx
  rw [htt] at hx
  obtain ⟨y, _, rfl⟩ := List.mem_map.1 hx
  simp only [cutA, B_size, List.length_take]; omega
 rw [← hm, ← htt, ← hb1]
 clear hm htt hb1
 refine Ev.bind2 (ofM_f m0 b1 e) ?_
 refine Ev.bind2 (check_f m0 m1 m2 t0 t1 b1 e) ?_
 refine Ev.bind2 (ofA_f t0) ?_
 refine Ev.bind2 (ref_check_f m0 m1 m2 t0 t1 b1 e) ?_
 have hc := sel_len m nmDel
 have hk := marks_len (headSel m nmDel)
 have p0 : (passOf ((headSel m nmRec).length : Int) (marksOf (headSel m nmDel)) tt).length ≤ 1000000 := by
  unfold passOf
  exact Nat.le_trans (List.length_filter_le _ _) t0
 have x0 : (failOf ((headSel m nmRec).length : Int) (marksOf (headSel m nmDel)) tt).length ≤ 1000000 := by
  unfold failOf
  rw [List.length_map]
  exact Nat.le_trans (List.length_filter_le _ _) t0
 refine Ev.bind2 (sameA_f p0) ?_
 refine Ev.cong (fun k => if_pos rfl) ?_
 refine Ev.cong (fun k => if_pos (by rw [List.length_map])) ?_
 refine Ev.bindc (hops_f m0 m1 b1 e) ?_
 refine Ev.bind2 (ref_hops_f m0 m1 b1 e) ?_
 refine Ev.cong (fun k => if_pos rfl) ?_
 refine Ev.bind2 (marks_f m0 m1 m2 b1 e) ?_
 refine Ev.bind2 (ref_marks_f m0 m1 m2 b1 e) ?_
 refine Ev.bind2 (sameA_f (by omega)) ?_
 refine Ev.eq (f := fun k => postriderlaw22_GuardChecks.l0 k (failOf ((headSel m nmRec).length : Int) (marksOf (headSel m nmDel)) tt) ((failOf ((headSel m nmRec).length : Int) (marksOf (headSel m nmDel)) tt).map cvX) 0) (fun k => ?_) (fl_l0 x0 _ 0 (Nat.zero_add _))
 simp only [postriderlaw22_GuardChecks.j0, Bool.not_true, Bool.false_eq_true, if_false]
end Go.Proofs.YtacjnapgdikhbaaGreatDoor.Pure
