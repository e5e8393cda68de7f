-- Written by this session's own program (wip/tools: a patched run of the printer) out of the translation.
import Derived.Test.YtdciiahlakgikabDoorQx0
import Derived.Test.YtdciiahlakgikabDoorQx5
namespace Go.Proofs.YtdciiahlakgikabDoor.Q
open Go.RowKit Go.Proofs.YtdciiahlakgikabDoorW.PrintWords Go.Proofs.YtdciiahlakgikabDoorW.PrintLast Go.Proofs.YtdciiahlakgikabDoorW.PrintMore
attribute [local go_sem] max2_int min2_int max_two min_two max_three min_three max_four min_four   -- for this text's walks alone
set_option linter.unusedVariables false
set_option linter.unusedSimpArgs false

/-! ### head_Message_Count: function 10 (by hand) -/
section
open Go.Shelf
attribute [local go_sem] Oper.semAt_some
set_option maxRecDepth 100000 in
set_option maxHeartbeats 2000000 in
theorem count_in (A0 : Option Addr) (c0 : Nat) (l0 : List S31) (a1 : ByteArray) (a2 : Bool) (nm : ByteArray) (hok : headSelOk l0 nm) (w : World) (hr0 : Kd.C k31 w A0 l0.length l0) (hc0 : l0.length ≤ c0) :
    CallsIn Fence.wide 9 Tryd.prog 10 #[.agg #[.slice A0 l0.length c0, .string a1, .bool a2], .string nm] w fun e w' => e = .returned (.int .i64 (headSel l0 nm).length) ∧ Below w.heap.size w w' := by
  have hl9 : (headSel l0 nm).length ≤ 1000000000000 := Nat.le_trans (by unfold headSel; rw [List.length_map]; exact List.length_filter_le _ _) hok.2.2
  have HK := Aside0.mk hok
  have HL9 := Aside0.mk hl9
  have HC := Aside0.mk hc0
  have HR := Aside0.mk hr0
  clear hok hr0 hc0 hl9
  refine callsIn_of_wp_marks Tryd.func10 rfl trivial ?_ rfl
  simp only [Tryd.ntmps10, List.size_toArray, List.length_cons, List.length_nil, Nat.reduceAdd, Nat.reduceSub, Array.replicate_succ, Array.replicate_zero, List.push_toArray, List.append_toArray, List.nil_append, List.cons_append]
  gi_wp2_with (refine ⟨trivial, ?_⟩; gi_at_call 22; (with_reducible refine (callsIn_wide.2 (vals_made A0 c0 l0 a1 a2 nm w _ HR.out (below_alloc (below_alloc (Below.refl _ _) _) _) HC.out)).mono ?_); rintro e w2 ⟨Bm, Bn, rfl, hv, hz, hb⟩; have HBn := Aside0.mk hz; clear hz; have HV := Aside0.mk hv; have HB := Aside0.mk hb; clear hv hb)
  have HC2 : Aside0 (w2.cell? ⟨w.heap.size + 1, 0, none⟩ = some (.int .i64 ([] : List ByteArray).length)) := ⟨by
    have := blk_cell (blk_below (blk_new (w.alloc (Obj.cells #[Value.slice A0 l0.length c0, Value.string a1, Value.bool a2] 24)) (Obj.cells #[Value.int IntKind.i64 0] 3)) HB.out) 0
    simpa using this⟩
  have HF2 : Aside0 (w2.frozen? ⟨w.heap.size + 1, 0, none⟩ = false) := ⟨by
    have := blk_frozen (blk_below (blk_new (w.alloc (Obj.cells #[Value.slice A0 l0.length c0, Value.string a1, Value.bool a2] 24)) (Obj.cells #[Value.int IntKind.i64 0] 3)) HB.out) 0
    simpa using this⟩
  have HW2 : Aside0 (Below w.heap.size w w2) := ⟨(below_alloc (below_alloc (Below.refl _ _) _) _).trans (HB.out.mono (by simp; omega))⟩
  have HZ : Aside0 (w.heap.size + 2 ≤ w2.heap.size) := ⟨Nat.le_trans (by simp) HB.out.size⟩
  refine wpIn_rangeFunc_ownF rfl (by omega) (gf := 42) (lb := #[.pointer (some ⟨Bm, 0, none⟩), .pointer (some ⟨Bn, 0, none⟩)]) rfl trivial (enters_of Tryd.func42 (by kernel_rfl) rfl)
    (vals_stops _ (by omega) Bm Bn A0 c0 l0 a1 a2 nm HK.out w w2 HV.out) KeepV.t (KeepV.b HW2.out.size (blk_lt HV.out.n)) (Below.refl _ _) (fun _ => rfl)
    (fun pre W => (W.cell? ⟨w.heap.size + 1, 0, none⟩ = some (.int .i64 pre.length) ∧ W.frozen? ⟨w.heap.size + 1, 0, none⟩ = false) ∧ Below w.heap.size w W)
    (fun _ _ _ => False)
    (OwnFrom.and (Own.from (fun s A B row hs hg hr => ⟨cell_kept hs.1 hg hr, (frozen_kept hs.1 hg hr).trans hs.2⟩) _) (ownFrom_below (Nat.le_refl _) HW2.out.size))
    (fun _ _ _ _ _ hs _ _ => hs)
    ⟨⟨HC2.out, HF2.out⟩, HW2.out⟩
    (fun x => { tmps := #[.agg #[.slice A0 l0.length c0, .string a1, .bool a2], .string nm, .pointer (some ⟨w.heap.size, 0, none⟩), undef, .int .i64 0, .pointer (some ⟨w.heap.size + 1, 0, none⟩), .agg #[.slice A0 l0.length c0, .string a1, .bool a2], .string nm, .func (.func 42) #[] #[.pointer (some ⟨Bm, 0, none⟩), .pointer (some ⟨Bn, 0, none⟩)], .string x, undef, undef, undef], defers := [] }) ?assign ?body ?done ?stop
  case assign =>
    intro l x W K hK
    gi_wp2
    simpa using hK
  case body =>
    rintro l pre x W ⟨⟨hc, hf⟩, hB⟩ hlt
    have hp : pre.length ≤ 1000000000000 := by have := HL9.out; omega
    clear hlt
    gi_wp2
    have hne : Bn ≠ w.heap.size + 1 := by have := HBn.out; simp at this; omega
    exact ⟨KeepsOthers.setCell _ _ _, ⟨(Below.refl w.heap.size W).setCell (p := ⟨w.heap.size + 1, 0, none⟩) (by simp) _, Below.heap_setCell _ _ _ _ hne⟩, ⟨by rw [List.length_append]; exact World.cell?_setCell_same' _ _ _ (by rw [hc]; rfl), by rw [World.frozen?_setCell]; exact hf⟩, hB.setCell (p := ⟨w.heap.size + 1, 0, none⟩) (by simp) _⟩
  case done =>
    rintro D ys W hD rfl ⟨⟨hc, _⟩, hB⟩ hK
    gi_wp2
    refine ⟨by simp, .inl ⟨_, _, rfl, run_takeDeferred hK, ?_⟩⟩
    exact ⟨_, results_tmp rfl _ _ _, rfl, hB.trans (belowK_b (w := w) (Nat.le_refl _) W D _ _ (by have := HZ.out; omega) hK rfl rfl)⟩
  case stop =>
    rintro D c pre W _ _ h _
    exact h.elim
end
def head_Message_Count.f (l0 : List S31) (_a1 : ByteArray) (_a2 : Bool) (a3 : ByteArray) : Option Int := if headSelOk l0 a3 then some (headSel l0 a3).length else none
theorem head_Message_Count.calls (A0 : Option Addr) (c0 : Nat) (l0 : List S31) (a1 : ByteArray) (a2 : Bool) (a3 : ByteArray) (r : Int) (w : World) (hr0 : Kd.C k31 w A0 l0.length l0) (hc0 : l0.length ≤ c0) (h : head_Message_Count.f l0 a1 a2 a3 = some r) :
    Calls Tryd.prog 10 #[.agg #[.slice A0 l0.length c0, .string a1, .bool a2], .string a3] w fun e w' => e = .returned (.int .i64 r) ∧ Below w.heap.size w w' := by
  unfold head_Message_Count.f at h
  by_cases hok : headSelOk l0 a3
  · rw [if_pos hok] at h
    obtain rfl := Option.some.inj h
    exact callsIn_wide.1 (count_in A0 c0 l0 a1 a2 a3 hok w hr0 hc0)
  · rw [if_neg hok] at h; cases h


/-! ### strings_ToLower: function 11 (by hand) -/
def strings_ToLower.f (a0 : ByteArray) : Option ByteArray := if a0.size ≤ 1000000 ∧ (a0.data.toList.all fun b => decide (b.toNat < 128)) = true then some ⟨(Lib.toLowerA a0.data.toList).toArray⟩ else none
theorem strings_ToLower.calls (a0 : ByteArray) (r : ByteArray) (w : World) (h : strings_ToLower.f a0 = some r) :
    Calls Tryd.prog 11 #[.string a0] w fun e w' => e = .returned (.string r) ∧ Below w.heap.size w w' := by
  unfold strings_ToLower.f at h
  split at h
  · rename_i hs
    obtain rfl := Option.some.inj h
    refine Tryd.strings_ToLower_ascii a0 w (by omega) (fun j b hj => ?_)
    have := List.all_eq_true.1 hs.2 b (List.mem_of_getElem? hj)
    simpa using this
  · cases h


/-! ### slices_Contains_string_string: function 12 (by hand) -/
def slices_Contains_string_string.f (l0 : List ByteArray) (a1 : ByteArray) : Option Bool := some (Lib.containsS l0 a1)
theorem slices_Contains_string_string.calls (A0 : Option Addr) (c0 : Nat) (l0 : List ByteArray) (a1 : ByteArray) (r : Bool) (w : World) (hr0 : Kd.C Kd.string w A0 l0.length l0) (hc0 : l0.length ≤ c0) (h : slices_Contains_string_string.f l0 a1 = some r) :
    Calls Tryd.prog 12 #[.slice A0 l0.length c0, .string a1] w fun e w' => e = .returned (.bool r) ∧ Drawn0 w w' := by
  obtain rfl := Option.some.inj h
  by_cases hl : l0 = []
  · subst hl
    refine (Tryd.slices_Contains_string_empty A0 c0 a1 w).mono ?_
    rintro e w' ⟨rfl, rfl⟩
    exact ⟨rfl, Drawn0.refl _⟩
  · obtain ⟨bk, o, rfl, hbk, hc⟩ := cells_at hr0 (List.length_pos_iff.2 hl)
    have hrd : ReadsOf Value.string ByteArray.empty w (some ⟨bk, o, none⟩) l0.length l0 := Kd.reads_of_C hr0
    refine (Tryd.slices_Contains_string bk o l0.length c0 l0 a1 w (Nat.le_refl _) hrd.2.1 (fun j hj => ?_)).mono ?_
    · rw [hc j (l0[j]'hj) (List.getElem?_eq_getElem hj)]
      simp [List.getD, hj]
    · rintro e w' ⟨rfl, rfl⟩
      rw [List.take_of_length_le (Nat.le_refl _)]
      exact ⟨rfl, Drawn0.refl _⟩


/-! ### strings_ContainsAny: function 13 (by hand) -/
def strings_ContainsAny.f (a0 a1 : ByteArray) : Option Bool := if a0.size ≤ 1000000 ∧ a1.size ≤ 1000000 ∧ (a0.data.toList.all fun b => decide (b.toNat < 128)) = true ∧ (a1.data.toList.all fun b => decide (b.toNat < 128)) = true then some (Lib.containsAny a0.data.toList a1.data.toList) else none
theorem strings_ContainsAny.calls (a0 a1 : ByteArray) (r : Bool) (w : World) (h : strings_ContainsAny.f a0 a1 = some r) :
    Calls Tryd.prog 13 #[.string a0, .string a1] w fun e w' => e = .returned (.bool r) ∧ Below w.heap.size w w' := by
  unfold strings_ContainsAny.f at h
  split at h
  · rename_i hs
    obtain rfl := Option.some.inj h
    refine Tryd.strings_ContainsAny_laid a0 a1 w (by omega) (by omega) (fun j b hj => ?_) (fun j b hj => ?_)
    · have := List.all_eq_true.1 hs.2.2.1 b (List.mem_of_getElem? hj)
      simpa using this
    · have := List.all_eq_true.1 hs.2.2.2 b (List.mem_of_getElem? hj)
      simpa using this
  · cases h


end Go.Proofs.YtdciiahlakgikabDoor.Q
