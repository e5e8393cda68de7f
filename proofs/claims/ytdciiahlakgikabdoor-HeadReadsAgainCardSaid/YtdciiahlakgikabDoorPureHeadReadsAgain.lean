/- Whatever is read of a text (its first 5000 bytes) has just that text; its fields are found by their names, in whatever case, as often as they stand there. -/
import Derived.Test.YtdciiahlakgikabDoorHA
import Derived.Test.YtdciiahlakgikabDoorWK
import Derived.Test.YtdciiahlakgikabDoorQx6
import Derived.Test.YtdciiahlakgikabDoorQx7
namespace Go.Proofs.YtdciiahlakgikabDoor.Pure
open Go.RowKit Go.Proofs.YtdciiahlakgikabDoor.Q Go.Proofs.YtdciiahlakgikabDoor.S Go.Proofs.YtdciiahlakgikabDoorW.PrintWords Go.Proofs.YtdciiahlakgikabDoorW.PrintLast Go.Proofs.YtdciiahlakgikabDoorW.PrintMore
set_option linter.unusedVariables false
set_option linter.unusedSimpArgs false
theorem find_f {l : List S31} {nm b : ByteArray} {e : Bool} (h : headSelOk l nm) : head_Message_Find.f l b e nm = some (headSel l nm) := by
  unfold head_Message_Find.f; rw [if_pos h]
theorem count_f {l : List S31} {nm b : ByteArray} {e : Bool} (h : headSelOk l nm) : head_Message_Count.f l b e nm = some ((headSel l nm).length : Int) := by
  unfold head_Message_Count.f; rw [if_pos h]
theorem sel_empty {fs : List Fld} (h : ∀ f ∈ fs, fnL f.1 = true) : headSel (fs.map mkS) (⟨#[]⟩ : ByteArray) = [] := by
  unfold headSel
  rw [List.map_eq_nil_iff, List.filter_eq_nil_iff]
  intro x hx
  obtain ⟨f, hf, rfl⟩ := List.mem_map.1 hx
  have := h f hf
  rw [decide_eq_true_iff]
  intro he
  have h1 := congrArg ByteArray.size he
  have e1 : (lowerB (mkS f).f0).size = f.1.length := by
    show (B ((B f.1).data.toList.map lowC)).size = _
    rw [B_size, List.length_map]; simp [B]
  have e2 : (lowerB (⟨#[]⟩ : ByteArray)).size = 0 := rfl
  rw [e1, e2] at h1
  unfold fnL at this
  rw [List.eq_nil_of_length_eq_zero h1] at this
  cases this
theorem again_l0 {fs : List Fld} {b : ByteArray} {e : Bool} (hl : fs.length ≤ 10000) (hf : ∀ f ∈ fs, fnL f.1 = true ∧ f.1.length ≤ 10000) : ∀ (d j : Nat), j + d = fs.length →
    Ev (fun k => postriderlaw07_HeadReadsAgain.l0 k (fs.map mkS) ((fs.map mkS).length : Int) (j : Int) (fs.map mkS) b e) true := by
  have hok : ∀ nm : ByteArray, nm.size ≤ 10000 → headSelOk (fs.map mkS) nm := by
    intro nm hn
    refine ⟨fun x hx => ?_, by omega, by rw [List.length_map]; omega⟩
    obtain ⟨f, h1, rfl⟩ := List.mem_map.1 hx
    have := (hf f h1).2
    show (B f.1).size < _
    rw [B_size]; omega
  intro d
  induction d with
  | zero =>
    intro j h
    refine Ev.eq (f := fun k => (some (0 : Int)).bind fun t212 => if t212 = 0 then ((postriderlaw07_wakes.f k).bind fun t213 => (some t213)) else (some false)) (fun k => ?_) ?_
    · simp only [postriderlaw07_HeadReadsAgain.l0]
      rw [if_neg (by rw [List.length_map]; omega), count_f (hok _ (by decide)), sel_empty (fun f h => (hf f h).1)]
      rfl
    · simp only [Option.bind_some, if_true]
      exact Ev.bind2 wakes_f (Ev.pure _)
  | succ d ih =>
    intro j h
    have hj : j < fs.length := by omega
    have hj' : j < (fs.map mkS).length := by rw [List.length_map]; omega
    have ew := w1 (n := j) (m := fs.length) hj (by omega)
    obtain ⟨q1, q2⟩ := hf _ (List.getElem_mem hj)
    have hr : rd_T31 (fs.map mkS) (j : Int) = mkS (fs[j]'hj) := by rw [rdS _ _ hj', List.getElem_map]
    refine Ev.eq (f := fun k => postriderlaw07_HeadReadsAgain.l0 k (fs.map mkS) ((fs.map mkS).length : Int) ((j + 1 : Nat) : Int) (fs.map mkS) b e) (fun k => ?_) (ih (j + 1) (by omega))
    simp only [postriderlaw07_HeadReadsAgain.l0]
    rw [if_pos (by omega), if_pos (by omega), if_pos (by omega), hr]
    rw [show (mkS (fs[j]'hj)).f0 = B (fs[j]'hj).1 from rfl, upper_f q1 (by omega), lower_f q1 (by omega)]
    simp only [Option.bind_some]
    rw [find_f (hok _ (by rw [B_size]; simp [Lib.toUpperA]; omega)), count_f (hok _ (by rw [B_size]; simp [Lib.toLowerA]; omega))]
    simp only [Option.bind_some]
    rw [sel_same _ (lowerB_up (fs[j]'hj).1), sel_same _ (lowerB_low (fs[j]'hj).1), if_pos rfl]
    have hc : slices_Contains_string_string.f (headSel (fs.map mkS) (B (fs[j]'hj).1)) (mkS (fs[j]'hj)).f1 = some true := by
      unfold slices_Contains_string_string.f
      congr 1
      rw [Lib.containsS_iff]
      unfold headSel
      refine List.mem_map.2 ⟨mkS (fs[j]'hj), List.mem_filter.2 ⟨List.mem_map.2 ⟨_, List.getElem_mem hj, rfl⟩, ?_⟩, rfl⟩
      exact decide_eq_true rfl
    rw [hc]
    simp only [Option.bind_some, if_true]
    have hne : ¬ (B (fs[j]'hj).1).toList = [] := by
      rw [toL, L_B]
      intro he
      unfold fnL at q1
      rw [he] at q1
      cases q1
    rw [if_neg hne, any_f q1 (by omega)]
    simp only [Option.bind_some, Bool.false_eq_true, if_false]
    rw [ew]
theorem HeadReadsAgain : postriderlaw07_HeadReadsAgain.Pure := by
  intro a0 h0
  have hm := mn_le (a0.size : Int) 5000
  apply Ev.to
  unfold postriderlaw07_HeadReadsAgain.f
  have k1 : 0 ≤ mn (a0.size : Int) 5000 := by omega
  have k2 : mn (a0.size : Int) 5000 ≤ (a0.size : Int) := by omega
  simp only [if_pos k1, if_pos k2]
  obtain ⟨s, hs⟩ : ∃ s, s = a0.extract 0 ((mn (a0.size : Int) 5000) : Int).toNat := ⟨_, rfl⟩
  have hsz : s.size ≤ 5000 := by
    rw [hs, ← L_len, L_ext, List.length_take]; omega
  rw [← hs]
  clear hs
  have hl := L_len s
  have hp := parse_f (s := s)
  rw [if_neg (by omega)] at hp
  refine Ev.bind2 hp ?_
  cases hms : msS (L s) with
  | none =>
    simp only [resM]
    simp only [show ¬ (5 : Int) = 0 by decide, if_false, if_true, List.length_nil, Int.ofNat_zero, Bool.false_eq_true]
    have he : (⟨#[]⟩ : ByteArray).toList = ([] : List UInt8) := by rw [toL]; rfl
    simp only [if_pos he]
    exact Ev.bind2 wakes_f (Ev.pure _)
  | some m =>
    obtain ⟨g1, g2, g3⟩ := ms_of hms
    have ht := headText_mk m
    rw [g1] at ht
    simp only [resM, if_true]
    have hb : m.2.1.length ≤ (L s).length := by
      rcases hm : m.2.2 with _ | _
      · rw [hm] at g1; have := congrArg List.length g1; simp at this; omega
      · have := hms; unfold msS at this
        obtain ⟨ls, hls, hml⟩ := Option.bind_eq_some_iff.1 this
        unfold msL at hml
        obtain ⟨f, _, hf⟩ := Option.map_eq_some_iff.1 hml
        split at hf
        · obtain rfl := hf; simp
        · obtain rfl := hf; simp at hm
    refine Ev.bindc (text_f (by rw [ht]; omega) (by rw [List.length_map]; omega) (by rw [B_size]; omega)) ?_
    rw [ht, B_L]
    simp only [if_true]
    refine Ev.bind2 (may_read (by omega) hms) ?_
    refine Ev.eq (f := fun k => postriderlaw07_HeadReadsAgain.l0 k (m.1.map mkS) ((m.1.map mkS).length : Int) ((0 : Nat) : Int) (m.1.map mkS) (B m.2.1) m.2.2) (fun k => ?_) (again_l0 (by omega) (fun f hf => ⟨(g3 f hf).1, by have := (g3 f hf).2.1; omega⟩) m.1.length 0 (by omega))
    simp only [postriderlaw07_HeadReadsAgain.j0, Bool.not_true, Bool.false_eq_true, if_false]
    rfl
end Go.Proofs.YtdciiahlakgikabDoor.Pure
