/- Fields laid anew, ahead and in their places, of any message (its first 20 fields, of at most 300 bytes each) and any name and value (of at most 100 and 900 bytes): what comes of it is the document's. -/
import Derived.Test.YtdciiahlakgikaaDoorHY
import Derived.Test.YtdciiahlakgikaaDoorQx13
namespace Go.Proofs.YtdciiahlakgikaaDoor.Pure
open Go.RowKit Go.Proofs.YtdciiahlakgikaaDoor.Q Go.Proofs.YtdciiahlakgikaaDoor.S Go.Proofs.YtdciiahlakgikaaDoorW.PrintWords Go.Proofs.YtdciiahlakgikaaDoorW.PrintLast Go.Proofs.YtdciiahlakgikaaDoorW.PrintMore
set_option linter.unusedVariables false
set_option linter.unusedSimpArgs false
theorem HeadLays : postriderlaw07_HeadLays.Pure := by
  intro l b e nm v i hl _ _ _ _ _
  have hM : maxLen = 9223372036854775807 := rfl
  have m0 := mn_le (nm.size : Int) 100
  have m1 := mn_le (v.size : Int) 900
  have k1 : 0 ≤ mn (nm.size : Int) 100 := by omega
  have k2 : mn (nm.size : Int) 100 ≤ (nm.size : Int) := by omega
  have k3 : 0 ≤ mn (v.size : Int) 900 := by omega
  have k4 : mn (v.size : Int) 900 ≤ (v.size : Int) := by omega
  obtain ⟨s1, s2, s3, s4⟩ := few_small (l := l) (b := b) (e := e)
  apply Ev.to
  unfold postriderlaw07_HeadLays.f
  refine Ev.bind2 (few_f (by omega) b e) ?_
  simp only [if_pos k1, if_pos k2, if_pos k3, if_pos k4]
  generalize (l.take 20).map cutS = m at s1 s2 s4 ⊢
  generalize B ((L b).take 600) = c at s3 s4 ⊢
  obtain ⟨n, hn⟩ : ∃ n, n = nm.extract 0 ((mn (nm.size : Int) 100) : Int).toNat := ⟨_, rfl⟩
  obtain ⟨u, hu⟩ : ∃ u, u = v.extract 0 ((mn (v.size : Int) 900) : Int).toNat := ⟨_, rfl⟩
  have hnz : n.size ≤ 100 := by rw [hn, ← L_len, L_ext, List.length_take]; omega
  have huz : u.size ≤ 900 := by rw [hu, ← L_len, L_ext, List.length_take]; omega
  rw [← hn, ← hu]
  obtain ⟨x, cx, p1, p2, _⟩ := both_lay (nm := n) (v := u) (by omega) (by omega)
  obtain ⟨ra, ba, ea, ca, qa, a1, a2⟩ := both_ahead (l := m) (b := c) (e := e) (nm := n) (v := u) s1 (fun y hy => (s2 y hy).2.2) s3 (by omega) (by omega)
  obtain ⟨rp, bp, ep, cp, qp, u1, u2⟩ := both_put (l := m) (b := c) (e := e) (i := i) (v := u) s1 (fun y hy => ⟨(s2 y hy).1, (s2 y hy).2.2⟩) s3 (by omega)
  refine Ev.bind2 (of_f (by omega) c e) ?_
  refine Ev.bind2 p1 (Ev.bind2 p2 (Ev.bind2 a1 (Ev.bind2 a2 (Ev.bind2 u1 (Ev.bind2 u2 ?_)))))
  simp only [beq_self_eq_true, Bool.and_self, if_true]
  refine Ev.bind2 (of_f (by omega) ba ea) (Ev.bind2 (same_eq (by rw [List.length_map]; omega) ba ea) ?_)
  simp only [if_true]
  refine Ev.bind2 (of_f (by omega) bp ep) (Ev.bind2 (same_eq (by rw [List.length_map]; omega) bp ep) ?_)
  simp only [if_true]
  refine Ev.bind2 (of_f (by omega) c e) (Ev.bind2 (same_eq (by rw [List.length_map]; omega) c e) ?_)
  simp only [if_true]
  exact Ev.bind2 wakes_f (Ev.pure _)
end Go.Proofs.YtdciiahlakgikaaDoor.Pure
