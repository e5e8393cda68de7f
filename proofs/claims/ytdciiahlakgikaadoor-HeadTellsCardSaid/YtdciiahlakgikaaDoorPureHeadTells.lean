/- Of any message (its first 20 fields, of at most 300 bytes each) and any name: what is told of it is the document's. -/
import Derived.Test.YtdciiahlakgikaaDoorHT
import Derived.Test.YtdciiahlakgikaaDoorQx13
namespace Go.Proofs.YtdciiahlakgikaaDoor.Pure
open Go.RowKit Go.Proofs.YtdciiahlakgikaaDoor.Q Go.Proofs.YtdciiahlakgikaaDoor.S Go.Proofs.YtdciiahlakgikaaDoorW.PrintWords Go.Proofs.YtdciiahlakgikaaDoorW.PrintLast Go.Proofs.YtdciiahlakgikaaDoorW.PrintMore
set_option linter.unusedVariables false
set_option linter.unusedSimpArgs false
theorem HeadTells : postriderlaw07_HeadTells.Pure := by
  intro l b e nm hl _ _ _
  have hM : maxLen = 9223372036854775807 := rfl
  have hm := mn_le (nm.size : Int) 100
  have k1 : 0 ≤ mn (nm.size : Int) 100 := by omega
  have k2 : mn (nm.size : Int) 100 ≤ (nm.size : Int) := by omega
  obtain ⟨s1, s2, s3, s4⟩ := few_small (l := l) (b := b) (e := e)
  apply Ev.to
  unfold postriderlaw07_HeadTells.f
  refine Ev.bind2 (few_f (by omega) b e) ?_
  simp only [if_pos k1, if_pos k2]
  generalize (l.take 20).map cutS = m at s1 s2 s4 ⊢
  generalize B ((L b).take 600) = c at s3 s4 ⊢
  obtain ⟨n, hn⟩ : ∃ n, n = nm.extract 0 ((mn (nm.size : Int) 100) : Int).toNat := ⟨_, rfl⟩
  have hnz : n.size ≤ 100 := by rw [hn, ← L_len, L_ext, List.length_take]; omega
  rw [← hn]
  have hok : headSelOk m n := ⟨fun x hx => by have := (s2 x hx).1; omega, by omega, by omega⟩
  obtain ⟨v, hv1, hv2⟩ := both_may (l := m) (b := c) (e := e) (by omega) (by omega) (by omega)
  have hfind : head_Message_Find.f m c e n = some (headSel m n) := by unfold head_Message_Find.f; rw [if_pos hok]
  have hcount : head_Message_Count.f m c e n = some ((headSel m n).length : Int) := by unfold head_Message_Count.f; rw [if_pos hok]
  have hsl : (headSel m n).length ≤ 1000 := by
    unfold headSel
    rw [List.length_map]
    exact Nat.le_trans (List.length_filter_le _ _) (by omega)
  refine Ev.bind2 (of_f (by omega) c e) ?_
  refine Ev.bind2 (ref_find_f (by omega) (by omega) (fun x hx => by have := (s2 x hx).1; omega)) ?_
  refine Ev.bind2 hv1 (Ev.bind2 hv2 ?_)
  simp only [beq_self_eq_true, if_true]
  refine Ev.bindc (text_f (by omega) (by omega) (by omega)) (Ev.bind2 (ref_text_f (by omega) (by omega) (by omega)) ?_)
  simp only [if_true]
  refine Ev.bindc hfind (Ev.bind2 (eqS (by omega)) ?_)
  simp only [if_true]
  refine Ev.bindc hcount ?_
  simp only [if_true]
  refine Ev.bind2 (of_f (by omega) c e) (Ev.bind2 (same_eq (by rw [List.length_map]; omega) c e) ?_)
  simp only [if_true]
  exact Ev.bind2 wakes_f (Ev.pure _)
end Go.Proofs.YtdciiahlakgikaaDoor.Pure
