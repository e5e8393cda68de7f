/- Messages made of fields: what is read of their text; a field laid anew is such a field. -/
import Derived.Test.YtacjnapgdikhbaaGreatDoorHYa
import Derived.Test.YtacjnapgdikhbaaGreatDoorHAb
import Derived.Test.YtacjnapgdikhbaaGreatDoorQx0
namespace Go.Proofs.YtacjnapgdikhbaaGreatDoor.S
open Go.RowKit Go.Proofs.YtacjnapgdikhbaaGreatDoor.Q Go.Proofs.YtacjnapgdikhbaaGreatDoorW.PrintWords Go.Proofs.YtacjnapgdikhbaaGreatDoorW.PrintLast Go.Proofs.YtacjnapgdikhbaaGreatDoorW.PrintMore
set_option linter.unusedVariables false
set_option linter.unusedSimpArgs false
def GdL (ls : List (List UInt8)) : Prop := ∃ a v, ls = a :: v ∧ fdB ls = true ∧ (∀ x ∈ ls, rgL x = true) ∧ (∀ x ∈ v, whL x = true)
theorem gd_head {a : List UInt8} {v : List (List UInt8)} (h : fdB (a :: v) = true) : whL a = false ∧ a ≠ [] := by
  have h' : (a.any (· == 58) && fnL (rdL (a.takeWhile col))) = true := h
  simp only [Bool.and_eq_true] at h'
  cases a with
  | nil => simp at h'
  | cons c t =>
    refine ⟨?_, by simp⟩
    show blC c = false
    by_cases hc : blC c = true
    · have hcol : col c = true := by unfold blC at hc; simp at hc; rcases hc with rfl | rfl <;> decide
      have e : (c :: t).takeWhile col = c :: t.takeWhile col := by rw [List.takeWhile_cons, if_pos hcol]
      rw [e] at h'
      have hp := rd_pre (c :: t.takeWhile col)
      rcases hr : rdL (c :: t.takeWhile col) with _ | ⟨d, r⟩
      · rw [hr] at h'; simp [fnL] at h'
      · rw [hr] at hp h'
        simp only [List.isPrefixOf, Bool.and_eq_true, beq_iff_eq] at hp
        have := h'.2
        unfold fnL at this
        rw [List.all_cons, hp.1, bl_fn hc] at this
        simp at this
    · simpa using hc
theorem tw_wh {v X : List (List UInt8)} (hv : ∀ x ∈ v, whL x = true) (hX : ∀ x y, X = x :: y → whL x = false) : (v ++ X).takeWhile whL = v ∧ (v ++ X).dropWhile whL = X := by
  induction v with
  | nil =>
    cases X with
    | nil => exact ⟨rfl, rfl⟩
    | cons x y => have := hX x y rfl; simp [List.takeWhile_cons, List.dropWhile_cons, this]
  | cons a v ih =>
    obtain ⟨i1, i2⟩ := ih (fun x hx => hv x (List.mem_cons_of_mem _ hx))
    have := hv a (by simp)
    rw [List.cons_append, List.takeWhile_cons, List.dropWhile_cons, if_pos this, if_pos this, i1, i2]; exact ⟨rfl, rfl⟩
theorem ms_good {rest : List (List UInt8)} (hr : rest = [] ∨ ∃ bl, rest = [] :: bl) : ∀ gs : List (List (List UInt8)), (∀ g ∈ gs, GdL g) → msL (gs.flatten ++ rest) = (msL rest).map fun m => (gs.map fdV ++ m.1, m.2.1, m.2.2)
  | [], _ => by simp
  | g :: gs, h => by
    obtain ⟨a, v, rfl, h1, h2, h3⟩ := h g (by simp)
    have ih := ms_good hr gs (fun x hx => h x (List.mem_cons_of_mem _ hx))
    have hX : ∀ x y, gs.flatten ++ rest = x :: y → whL x = false := by
      intro x y e
      cases gs with
      | nil =>
        rcases hr with rfl | ⟨bl, rfl⟩
        · simp at e
        · simp at e; rw [e.1]; rfl
      | cons g' gs' =>
        obtain ⟨a', v', rfl, k1, _, _⟩ := h g' (by simp)
        simp at e
        rw [← e.1]; exact (gd_head k1).1
    obtain ⟨t1, t2⟩ := tw_wh h3 hX
    rw [List.flatten_cons, List.append_assoc, List.cons_append, ms_cons (gd_head h1).2, t1, if_pos h1, t2, ih]
    cases msL rest <;> rfl
theorem flat_fl : ∀ gs : List (List (List UInt8)), flat gs.flatten = (gs.map flat).flatten
  | [] => rfl
  | g :: gs => by rw [List.flatten_cons, flat_app, flat_fl gs]; rfl
def mtL (gs : List (List (List UInt8))) (early : Bool) (bl : List (List UInt8)) : List UInt8 := (gs.map flat).flatten ++ (if early = true then [] else 13 :: 10 :: flat bl)
theorem ms_text {gs : List (List (List UInt8))} (h : ∀ g ∈ gs, GdL g) (early : Bool) {bl : List (List UInt8)} (hb : ∀ x ∈ bl, rgL x = true) : msS (mtL gs early bl) = some (gs.map fdV, if early = true then [] else flat bl, early) := by
  have e : mtL gs early bl = flat (gs.flatten ++ if early = true then [] else [] :: bl) := by
    unfold mtL
    rw [flat_app, flat_fl]
    cases early <;> simp [flat_cons, flat_nil]
  have hg : ∀ x ∈ gs.flatten, rgL x = true := by
    intro x hx
    obtain ⟨g, hg, hx⟩ := List.mem_flatten.1 hx
    obtain ⟨a, v, rfl, _, h2, _⟩ := h g hg
    exact h2 x hx
  have hl : ∀ x ∈ gs.flatten ++ (if early = true then [] else [] :: bl), rgL x = true := by
    intro x hx
    rcases List.mem_append.1 hx with hx | hx
    · exact hg x hx
    · cases early with
      | true => simp at hx
      | false =>
        simp at hx
        rcases hx with rfl | hx
        · rfl
        · exact hb x hx
  unfold msS
  rw [e, lnG_flat _ hl, Option.bind_some, ms_good (by cases early <;> simp) gs h]
  cases early with
  | true => simp [ms_nil]
  | false => simp [ms_end]
end Go.Proofs.YtacjnapgdikhbaaGreatDoor.S

