/- Contracts of the builder whose frames reach above it, and of its Write, at this translation; what they keep of other rows. -/
import Derived.Test.YtdciiahlakgikaaDoorWS
import Derived.Shelf.Strings.BuilderK
import Derived.Lib.FrozenHead2
import Derived.Shelf.Strings.Split
import Derived.Laws.AppendOwn
import Derived.StillTailTactics
namespace Go.Proofs
open Go.Shelf Go.RowKit
theorem Tryd.Builder_WriteString_k (B b : Nat) (bs : List Value) (s : ByteArray) (w : World) (h : Lib.IsBuilderF 96 5 B b bs w) (hlen : bs.length + s.size ≤ 140737488355328) (hBw : B ≤ w.heap.size) :
    Calls Tryd.prog 60 #[.pointer (some ⟨b, 0, none⟩), .string s] w fun e w' => e = .returned (.tuple #[.int .i64 s.size, .nilIface]) ∧ (Lib.BuilderAtF 96 5 B b (.pointer (some ⟨b, 0, none⟩)) (bs ++ Lib.strCells s) w' ∧ Below B w w' ∧ Lib.OthersKept 5 (some b) w w') := Any.Builder_WriteString_k { Tryd.lays156 with } Tryd.Builder_Extra_156 B b bs s w h hlen hBw
theorem Tryd.Builder_String_any_k (B b : Nat) (l : List UInt8) (w : World) (h : Lib.IsBuilderF 96 5 B b (Lib.byteCells l) w) (hBw : B ≤ w.heap.size) :
    Calls Tryd.prog 61 #[.pointer (some ⟨b, 0, none⟩)] w fun e w' => e = .returned (.string ⟨l.toArray⟩) ∧ (Lib.IsBuilderF 96 5 B b (Lib.byteCells l) w' ∧ Below B w w' ∧ Lib.OthersKept 5 (some b) w w') := Any.Builder_String_any_k { Tryd.lays156 with } Tryd.Builder_Extra_156 B b l w h hBw
/-- copyCheck: nothing but the builder's own block is turned. -/
theorem Tryd.Builder_copyCheck_b (B b : Nat) (bs : List Value) (w : World) (h : Lib.IsBuilderF 96 5 B b bs w) :
    Calls Tryd.prog 89 #[.pointer (some ⟨b, 0, none⟩)] w fun e w' => e = .returned (.tuple #[]) ∧ (Lib.BuilderAtF 96 5 B b (.pointer (some ⟨b, 0, none⟩)) bs w' ∧ Below B w w' ∧ ∀ k, k ≠ b → w'.heap[k]? = w.heap[k]?) := by
  have L : Lays.n240 Tryd.prog Tryd.lays156_ren := { Tryd.lays156 with }
  rcases h with h | h
  · refine (Any.Builder_copyCheck_fresh L Tryd.Builder_Extra_156.toX72 b w h.cell0 h.shape h.frozen0).mono ?_
    rintro e w' ⟨rfl, rfl⟩
    exact ⟨rfl, h.used _, (Below.refl B w).setCell (p := ⟨b, 0, none⟩) h.1 _, fun k hk => Below.heap_setCell _ _ _ _ hk⟩
  · refine (Any.Builder_copyCheck_used L Tryd.Builder_Extra_156.toX72 b w h.cell0).mono ?_
    rintro e w' ⟨rfl, rfl⟩
    exact ⟨rfl, h, Below.refl B _, fun _ _ => rfl⟩
set_option maxHeartbeats 2000000 in
set_option maxRecDepth 100000 in
theorem Tryd.Builder_Write_k (B b : Nat) (bs : List Value) (ad : Addr) (m c : Nat) (news : List Value) (w : World) (h : Lib.IsBuilderF 96 5 B b bs w)
    (hl : news.length = m) (hnews : ∀ j u, news[j]? = some u → w.cell? (ad.add j) = some u) (had : ad.block ≠ b) (h1 : ∀ u ∈ news, u.oneCell' = true)
    (hlen : bs.length + m ≤ 140737488355328) (hBw : B ≤ w.heap.size) :
    Calls Tryd.prog 72 #[.pointer (some ⟨b, 0, none⟩), .slice (some ad) m c] w fun e w' => e = .returned (.tuple #[.int .i64 m, .nilIface]) ∧ (Lib.BuilderAtF 96 5 B b (.pointer (some ⟨b, 0, none⟩)) (bs ++ news) w' ∧ Below B w w' ∧ Lib.OthersKept 5 (some b) w w') := by
  have hib := Tryd.Builder_Extra_156.infoByte
  have hne5 : (96 : Nat) ≠ 5 := by decide
  obtain ⟨i0, hi, hz0, hz1, hz2⟩ := info_parts hib
  go_enter Tryd.func72, Tryd.ntmps72
  go_wp2_with (go_at_call 89; (with_reducible refine (Tryd.Builder_copyCheck_b B b bs _ h).mono ?_))
  rintro e w1 ⟨rfl, h1', hb1, hk1⟩
  obtain ⟨hB, v, hbk, hown, hne⟩ := h1'
  have c0 : w1.cell? ⟨b, 0, none⟩ = some (.pointer (some ⟨b, 0, none⟩)) := by rw [Lib.cell_of_heap hbk]; rfl
  have c1 : w1.cell? ⟨b, 1, none⟩ = some v := by rw [Lib.cell_of_heap hbk]; rfl
  have hnews1 : ∀ j u, news[j]? = some u → w1.cell? (ad.add j) = some u := fun j u hj => by
    rw [← hnews j u hj]
    have e : (ad.add j).block = ad.block := by unfold Addr.add; split <;> rfl
    unfold World.cell?
    rw [hk1 _ (by rw [e]; exact had)]
  go_wp2_with (at_builtin; refine wpList_append_ownF _ rfl _ _ 39 rfl B 5 i0 (.int .u8 0) 1 1 Tryd.underlying39 hi hz0 hz1 hz2 rfl (by decide) _ _ _ rfl hown ad m c news rfl (by omega) hnews1 h1 ?c3 ?c4 ?c5 ?_)
  case c3 => unfold maxLen; omega
  case c4 => omega
  case c5 => have := hb1.size; omega
  intro v' w2 hown' hgrow _
  have hlt : b < w1.heap.size := by
    rcases Nat.lt_or_ge b w1.heap.size with h' | h'
    · exact h'
    · simp [Array.getElem?_eq_none h'] at hbk
  have hb2 : w2.heap[b]? = some (.cells #[.pointer (some ⟨b, 0, none⟩), v] 96 (0, 0)) := by
    rw [hgrow.block b hlt (fun e => hne e.symm)]
    exact hbk
  have d0 : w2.cell? ⟨b, 0, none⟩ = some (.pointer (some ⟨b, 0, none⟩)) := by rw [Lib.cell_of_heap hb2]; rfl
  have d1 : w2.cell? ⟨b, 1, none⟩ = some v := by rw [Lib.cell_of_heap hb2]; rfl
  have f1 : w2.frozen? ⟨b, 1, none⟩ = false := Lib.frozen_of_heap hb2 1
  obtain ⟨ao, n', cap, rfl⟩ : ∃ ao n' cap, v' = .slice ao n' cap := by
    rcases hown'.2 with ⟨hv, _⟩ | ⟨g, cap, cur, fz, hv, _⟩
    · exact ⟨_, _, _, hv⟩
    · exact ⟨_, _, _, hv⟩
  have hkk : Lib.OthersKept 5 (some b) w w1 := fun k o hk hb _ => by rw [hk1 k (fun e => hb (by rw [e]))]; exact hk
  go_wp2
  go_ret2
  refine ⟨rfl, ?_, ?_, (hkk.grown hgrow (Lib.ownsRowF_kind hown)).setCell ⟨b, 1, none⟩ rfl _⟩
  · exact Lib.BuilderAtF.put (T := 96) (e := 5) hB hb2 (bs' := bs ++ news) (by simpa [hl] using hown') hne5
  · exact (hb1.grown hgrow (by have := hb1.size; omega) (fun k hk => (hown.lt k hk).1)).setCell (p := ⟨b, 1, none⟩) hB _
theorem Tryd.strings_SplitAfter (s sep : ByteArray) (m : Int) (w : World) (hs : s.size < 4294967281) (hm : w.cell? ⟨0, 0, none⟩ = some (.int .i64 m)) (h1 : 1 ≤ sep.size) :
    Calls Tryd.prog 71 #[.string s, .string sep] w fun e w' =>
      e = .returned (.slice (some ⟨w.heap.size, 0, none⟩) (Lib.countB s sep + 1) (Lib.countB s sep + 1)) ∧ w' = w.alloc (.cells ((Lib.splitB sep sep.size (Lib.countB s sep) s).map Value.string).toArray 9) := by
  have hle := Lib.countB_le sep h1 s.size s (Nat.le_refl _)
  have hlen := Lib.splitB_all sep h1 sep.size _ s rfl
  have c : Calls Tryd.prog 57 #[.string s, .string sep, .int .i64 sep.size, .int .i64 (-1)] w fun e w' => e = .returned (.slice (some ⟨w.heap.size, 0, none⟩) (Lib.splitB sep sep.size (Lib.countB s sep + 1 - 1) s).length (Lib.countB s sep + 1)) ∧ w' = w.alloc (.cells (Lib.cellsOf (Lib.splitB sep sep.size (Lib.countB s sep + 1 - 1) s) (Lib.countB s sep + 1)) 9) :=
    Any.strings_genSplit (P := Tryd.prog) (ρ := Tryd.lays146_ren) { Tryd.lays146 with } (by kernel_rfl) s sep sep.size (-1) (Lib.countB s sep + 1) m w hs hm h1 (Nat.le_refl _) (by decide) (by decide) (by rw [if_pos (by decide)]; omega)
  rw [Nat.add_sub_cancel, hlen] at c
  have e2 : Lib.cellsOf (Lib.splitB sep sep.size (Lib.countB s sep) s) (Lib.countB s sep + 1) = ((Lib.splitB sep sep.size (Lib.countB s sep) s).map Value.string).toArray := by rw [← hlen]; exact Lib.cellsOf_full _
  rw [e2] at c
  go_enter Tryd.func71, Tryd.ntmps71
  go_wp2_with (go_at_call 57; (refine c.mono ?_); rintro e w' ⟨rfl, hw⟩; rw [hw])
  go_ret
  exact ⟨rfl, rfl⟩
/-- A row of texts stands behind a builder's call. -/
theorem ownsRow_others {w w' : World} {base n e b T : Nat} {v : Value} {xs : List Value} {cs : Array Value} {fz : Nat × Nat} (h : w.ownsRow base e 1 v n xs) (hb : w.heap[b]? = some (.cells cs T fz)) (hT : T ≠ e) (he : e ≠ 5) (hk : Lib.OthersKept 5 (some b) w w') : w'.ownsRow base e 1 v n xs := by
  refine ⟨h.1, h.2.imp id ?_⟩
  rintro ⟨g, cap, cur, hv, hbg, hg, rest⟩
  refine ⟨g, cap, cur, hv, hbg, hk g _ hg (fun e1 => ?_) (fun c fz e1 => ?_), rest⟩
  · have := Option.some.inj e1
    subst this
    rw [hb] at hg
    injection hg with hg
    injection hg with _ h2
    exact hT h2
  · injection e1 with _ h2
    exact he h2
theorem IsBuilderF_at {w : World} {T e B b : Nat} {bs : List Value} (h : Lib.IsBuilderF T e B b bs w) : ∃ p, Lib.BuilderAtF T e B b p bs w := h.elim (fun x => ⟨_, x⟩) (fun x => ⟨_, x⟩)
theorem BuilderAtF_stay {w w' : World} {T e B b : Nat} {p : Value} {bs : List Value} (h : Lib.BuilderAtF T e B b p bs w) (hk : ∀ k, (k = b ∨ ∃ c fz, w.heap[k]? = some (.cells c e fz)) → k < w.heap.size → w'.heap[k]? = w.heap[k]?) : Lib.BuilderAtF T e B b p bs w' := by
  obtain ⟨hB, v, hb, hown, hne⟩ := h
  refine ⟨hB, v, (hk b (.inl rfl) ((Array.getElem?_eq_some_iff.1 hb).1)).trans hb, ⟨hown.1, hown.2.imp id ?_⟩, hne⟩
  rintro ⟨g, cap, cur, fz, hv, hbg, hg, rest⟩
  exact ⟨g, cap, cur, fz, hv, hbg, (hk g (.inr ⟨_, _, hg⟩) ((Array.getElem?_eq_some_iff.1 hg).1)).trans hg, rest⟩
theorem IsBuilderF_stay {w w' : World} {T e B b : Nat} {bs : List Value} (h : Lib.IsBuilderF T e B b bs w) (hk : ∀ k, (k = b ∨ ∃ c fz, w.heap[k]? = some (.cells c e fz)) → k < w.heap.size → w'.heap[k]? = w.heap[k]?) : Lib.IsBuilderF T e B b bs w' := h.imp (BuilderAtF_stay · hk) (BuilderAtF_stay · hk)
theorem IsBuilderF_below {w w' : World} {T e B b : Nat} {bs : List Value} (h : Lib.IsBuilderF T e B b bs w) (hb : Below w.heap.size w w') : Lib.IsBuilderF T e B b bs w' := IsBuilderF_stay h (fun k _ hk => hb.block k hk)
/-- A builder stands while a row of another type grows. -/
theorem IsBuilderF_grown {w w' : World} {T e B b base n e2 : Nat} {v : Value} {bs xs : List Value} (h : Lib.IsBuilderF T e B b bs w) (hr : w.ownsRow base e2 1 v n xs) (h1 : e2 ≠ e) (h2 : e2 ≠ T) (hg : w.grownBy w' v.ownBlock) : Lib.IsBuilderF T e B b bs w' := by
  obtain ⟨p, hp⟩ := IsBuilderF_at h
  refine IsBuilderF_stay h (fun k hk hlt => hg.block k hlt (fun e1 => ?_))
  rcases hr.2 with ⟨rfl, _⟩ | ⟨g, cap, cur, rfl, _, hgg, _⟩
  · simp [Value.ownBlock] at e1
  · have : k = g := by simpa [Value.ownBlock] using e1
    subst this
    rcases hk with rfl | ⟨c, fz, hc⟩
    · obtain ⟨_, v, hb, _⟩ := hp
      rw [hb] at hgg
      injection hgg with hgg
      injection hgg with _ h3
      exact h2 h3.symm
    · rw [hc] at hgg
      injection hgg with hgg
      injection hgg with _ h3
      exact h1 h3.symm
theorem ownsRow_below {w w' : World} {base n e : Nat} {v : Value} {xs : List Value} (h : w.ownsRow base e 1 v n xs) (hb : Below w.heap.size w w') : w'.ownsRow base e 1 v n xs := by
  refine ⟨h.1, h.2.imp id ?_⟩
  rintro ⟨g, cap, cur, hv, hbg, hg, rest⟩
  exact ⟨g, cap, cur, hv, hbg, (hb.block g ((Array.getElem?_eq_some_iff.1 hg).1)).trans hg, rest⟩
end Go.Proofs
