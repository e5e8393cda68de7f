/- Messages made of fields: what is read of their text; a field laid anew is such a field. -/
import Derived.Test.YtdciiahlakgikaaDoorHYa
import Derived.Test.YtdciiahlakgikaaDoorHAb
import Derived.Test.YtdciiahlakgikaaDoorQx0
namespace Go.Proofs.YtdciiahlakgikaaDoor.S
open Go.RowKit Go.Proofs.YtdciiahlakgikaaDoor.Q Go.Proofs.YtdciiahlakgikaaDoorW.PrintWords Go.Proofs.YtdciiahlakgikaaDoorW.PrintLast Go.Proofs.YtdciiahlakgikaaDoorW.PrintMore
set_option linter.unusedVariables false
set_option linter.unusedSimpArgs false
/-- Lines that make one field. -/
def GdL (ls : List (List UInt8)) : Prop := ∃ a v, ls = a :: v ∧ fdB ls = true ∧ (∀ x ∈ ls, rgL x = true) ∧ (∀ x ∈ v, whL x = true)
theorem gd_head {a : List UInt8} {v : List (List UInt8)} (h : fdB (a :: v) = true) : whL a = false ∧ a ≠ [] := by
  have h' : (a.any (· == 58) && fnL (rdL (a.takeWhile col))) = true := h
  simp only [Bool.and_eq_true] at h'
  cases a with
  | nil => simp at h'
  | cons c t =>
    refine ⟨?_, by simp⟩
    show blC c = false
    by_cases hc : blC c = true
    · have hcol : col c = true := by unfold blC at hc; simp at hc; rcases hc with rfl | rfl <;> decide
      have e : (c :: t).takeWhile col = c :: t.takeWhile col := by rw [List.takeWhile_cons, if_pos hcol]
      rw [e] at h'
      have hp := rd_pre (c :: t.takeWhile col)
      rcases hr : rdL (c :: t.takeWhile col) with _ | ⟨d, r⟩
      · rw [hr] at h'; simp [fnL] at h'
      · rw [hr] at hp h'
        simp only [List.isPrefixOf, Bool.and_eq_true, beq_iff_eq] at hp
        have := h'.2
        unfold fnL at this
        rw [List.all_cons, hp.1, bl_fn hc] at this
        simp at this
    · simpa using hc
theorem tw_wh {v X : List (List UInt8)} (hv : ∀ x ∈ v, whL x = true) (hX : ∀ x y, X = x :: y → whL x = false) : (v ++ X).takeWhile whL = v ∧ (v ++ X).dropWhile whL = X := by
  induction v with
  | nil =>
    cases X with
    | nil => exact ⟨rfl, rfl⟩
    | cons x y => have := hX x y rfl; simp [List.takeWhile_cons, List.dropWhile_cons, this]
  | cons a v ih =>
    obtain ⟨i1, i2⟩ := ih (fun x hx => hv x (List.mem_cons_of_mem _ hx))
    have := hv a (by simp)
    rw [List.cons_append, List.takeWhile_cons, List.dropWhile_cons, if_pos this, if_pos this, i1, i2]; exact ⟨rfl, rfl⟩
theorem ms_good {rest : List (List UInt8)} (hr : rest = [] ∨ ∃ bl, rest = [] :: bl) : ∀ gs : List (List (List UInt8)), (∀ g ∈ gs, GdL g) → msL (gs.flatten ++ rest) = (msL rest).map fun m => (gs.map fdV ++ m.1, m.2.1, m.2.2)
  | [], _ => by simp
  | g :: gs, h => by
    obtain ⟨a, v, rfl, h1, h2, h3⟩ := h g (by simp)
    have ih := ms_good hr gs (fun x hx => h x (List.mem_cons_of_mem _ hx))
    have hX : ∀ x y, gs.flatten ++ rest = x :: y → whL x = false := by
      intro x y e
      cases gs with
      | nil =>
        rcases hr with rfl | ⟨bl, rfl⟩
        · simp at e
        · simp at e; rw [e.1]; rfl
      | cons g' gs' =>
        obtain ⟨a', v', rfl, k1, _, _⟩ := h g' (by simp)
        simp at e
        rw [← e.1]; exact (gd_head k1).1
    obtain ⟨t1, t2⟩ := tw_wh h3 hX
    rw [List.flatten_cons, List.append_assoc, List.cons_append, ms_cons (gd_head h1).2, t1, if_pos h1, t2, ih]
    cases msL rest <;> rfl
theorem flat_fl : ∀ gs : List (List (List UInt8)), flat gs.flatten = (gs.map flat).flatten
  | [] => rfl
  | g :: gs => by rw [List.flatten_cons, flat_app, flat_fl gs]; rfl
/-- A message's text of fields, whether it ends early, and its body's lines. -/
def mtL (gs : List (List (List UInt8))) (early : Bool) (bl : List (List UInt8)) : List UInt8 := (gs.map flat).flatten ++ (if early = true then [] else 13 :: 10 :: flat bl)
theorem ms_text {gs : List (List (List UInt8))} (h : ∀ g ∈ gs, GdL g) (early : Bool) {bl : List (List UInt8)} (hb : ∀ x ∈ bl, rgL x = true) : msS (mtL gs early bl) = some (gs.map fdV, if early = true then [] else flat bl, early) := by
  have e : mtL gs early bl = flat (gs.flatten ++ if early = true then [] else [] :: bl) := by
    unfold mtL
    rw [flat_app, flat_fl]
    cases early <;> simp [flat_cons, flat_nil]
  have hg : ∀ x ∈ gs.flatten, rgL x = true := by
    intro x hx
    obtain ⟨g, hg, hx⟩ := List.mem_flatten.1 hx
    obtain ⟨a, v, rfl, _, h2, _⟩ := h g hg
    exact h2 x hx
  have hl : ∀ x ∈ gs.flatten ++ (if early = true then [] else [] :: bl), rgL x = true := by
    intro x hx
    rcases List.mem_append.1 hx with hx | hx
    · exact hg x hx
    · cases early with
      | true => simp at hx
      | false =>
        simp at hx
        rcases hx with rfl | hx
        · rfl
        · exact hb x hx
  unfold msS
  rw [e, lnG_flat _ hl, Option.bind_some, ms_good (by cases early <;> simp) gs h]
  cases early with
  | true => simp [ms_nil]
  | false => simp [ms_end]
/-- A fold stands at a blank. -/
theorem fld_blank (l : List UInt8) : ∀ (d i : Nat) (b : Int), (b < 0 ∨ l[b.toNat]? = some 32) → fld l d i b < 0 ∨ l[(fld l d i b).toNat]? = some 32 := by
  intro d
  induction d with
  | zero => intro i b h; exact h
  | succ d ih =>
    intro i b h
    show fld l d (i + 1) (stp l b i) < 0 ∨ _
    refine ih (i + 1) (stp l b i) ?_
    unfold stp
    by_cases hc : cnd l i = true
    · rw [if_pos hc]
      have h32 : l[i]? = some 32 := by
        unfold cnd at hc
        simp only [Bool.and_eq_true, beq_iff_eq] at hc
        exact hc.1
      split
      · right; rw [Int.toNat_natCast]; exact h32
      · split
        · right; rw [Int.toNat_natCast]; exact h32
        · exact h
    · rw [if_neg hc]; exact h
theorem fldV_blank (l : List UInt8) (least j : Nat) (h : fldV l least = (j : Int)) : l[j]? = some 32 := by
  unfold fldV at h
  split at h
  · omega
  · rcases fld_blank l (l.length - least) least (-1) (.inl (by omega)) with h1 | h1
    · omega
    · rw [h] at h1; simpa using h1
theorem drop_bl {l : List UInt8} {j : Nat} (h : l[j]? = some 32) : ∃ r, l.drop j = 32 :: r := by
  obtain ⟨h1, h2⟩ := List.getElem?_eq_some_iff.1 h
  exact ⟨l.drop (j + 1), by rw [List.drop_eq_getElem_cons h1, h2]⟩
/-- The lines of a field laid anew. -/
theorem lay_wh : ∀ (N : Nat) (c : List UInt8) (acc : List (List UInt8)) (least : Nat), c.length ≤ N → 1 ≤ least → least ≤ c.length → acc.length + c.length ≤ 9000 → acc.flatten.length + c.length ≤ 9000 →
    ∃ a t, (acc ++ a :: t).flatten = acc.flatten ++ c ∧ (acc ++ a :: t).length ≤ acc.length + c.length + 1 ∧ c.take (least - 1) <+: a ∧ (∀ x ∈ t, whL x = true) ∧ (c.head? = some 32 → 2 ≤ least → whL a = true) ∧
      (∀ R, Ev (fun k => head_field.f k ((acc ++ a :: t).map B)) R → Ev (fun k => head_Lay.l0 k (acc.map B) (B c) (fldV c least)) (R.1, R.2.1, R.2.2.1, 0)) := by
  intro N
  induction N with
  | zero => intro c acc least h h1 h2; omega
  | succ N ih =>
    intro c acc least hN h1 h2 hb hb2
    have hfa := flat_le acc
    rcases fldV_bd c least h2 with hv | ⟨hv1, hv2⟩
    · refine ⟨c, [], by simp, by simp only [List.length_append, List.length_singleton]; omega, List.take_prefix _ _, by simp, fun hh _ => ?_, fun R hR => ?_⟩
      · cases c with
        | nil => cases hh
        | cons x y => simp at hh; subst hh; rfl
      · rw [hv]
        refine Ev.eq (f := fun k => (head_field.f k ((acc ++ [c]).map B)).bind fun bt211 => (some (bt211.1, bt211.2.1, bt211.2.2.1, (0 : Int)))) (fun k => ?_) (Ev.bind2 hR (Ev.pure _))
        simp only [head_Lay.l0]
        rw [if_neg (by omega), if_pos (by rw [List.length_map]; omega), List.map_append]
        try rfl
    · have h78 : ¬ c.length ≤ 78 := fun h => by unfold fldV at hv1; rw [if_pos h] at hv1; omega
      obtain ⟨j, hj⟩ : ∃ j : Nat, fldV c least = (j : Int) := ⟨(fldV c least).toNat, by omega⟩
      obtain ⟨dr, hdr⟩ := drop_bl (fldV_blank c least j hj)
      rw [hj] at hv1 hv2
      have hjl : j < c.length := by omega
      have hlj : least ≤ j := by omega
      have hdl : (c.drop j).length = c.length - j := List.length_drop
      have htl : (c.take j).length = j := by rw [List.length_take]; omega
      have hE : (B c).extract j (B c).size = B (c.drop j) := by
        rw [ext_B, B_size, L_B, List.take_of_length_le (by rw [List.length_drop]; omega)]
      have hT : (B c).extract 0 j = B (c.take j) := by rw [ext_B, L_B, List.drop_zero, Nat.sub_zero]
      have hfl : (acc ++ [c.take j]).flatten = acc.flatten ++ c.take j := by simp
      have hwt : c.head? = some 32 → 2 ≤ least → whL (c.take j) = true := fun hh hle => by
        cases c with
        | nil => cases hh
        | cons x y =>
          simp at hh; subst hh
          obtain ⟨j', rfl⟩ : ∃ j', j = j' + 1 := ⟨j - 1, by omega⟩
          rfl
      by_cases h2d : 2 ≤ (c.drop j).length
      · obtain ⟨a, t, e1, e2, e3, e6, e7, e4⟩ := ih (c.drop j) (acc ++ [c.take j]) 2 (by omega) (by omega) h2d (by simp; omega) (by rw [hfl, List.length_append]; omega)
        refine ⟨c.take j, a :: t, ?_, ?_, ?_, ?_, hwt, fun R hR => ?_⟩
        · have : acc ++ c.take j :: a :: t = acc ++ [c.take j] ++ a :: t := by simp
          rw [this, e1, hfl, List.append_assoc, List.take_append_drop]
        · have : acc ++ c.take j :: a :: t = acc ++ [c.take j] ++ a :: t := by simp
          rw [this]
          simp only [List.length_append, List.length_singleton] at e2 ⊢
          omega
        · exact (List.take_prefix_take_left (by omega))
        · intro x hx
          rcases List.mem_cons.1 hx with rfl | hx
          · exact e7 (by rw [hdr]; rfl) (by omega)
          · exact e6 x hx
        · rw [show acc ++ c.take j :: a :: t = acc ++ [c.take j] ++ a :: t by simp] at hR
          have key := e4 R hR
          rw [hj]
          refine Ev.eq (f := fun k => (head_fold.f k (B (c.drop j)) 2).bind fun t207 => head_Lay.l0 k ((acc ++ [c.take j]).map B) (B (c.drop j)) t207) (fun k => ?_) ?_
          · simp only [head_Lay.l0]
            rw [if_pos (by omega), if_pos (by omega), if_pos (by rw [B_size]; omega), if_pos (by rw [List.length_map]; omega), Int.toNat_natCast, hE, hT, List.map_append]; rfl
          · have hf := fold_v (s := B (c.drop j)) (by rw [B_size]; omega) (least := 2) (by omega) (.inl (by rw [B_size]; omega))
            rw [L_B] at hf
            exact Ev.bind2 hf key
      · have hone : (c.drop j).length = 1 := by omega
        refine ⟨c.take j, [c.drop j], ?_, ?_, ?_, ?_, hwt, fun R hR => ?_⟩
        · simp
        · simp; omega
        · exact (List.take_prefix_take_left (by omega))
        · intro x hx
          rw [List.mem_singleton.1 hx, hdr]; rfl
        · rw [hj]
          refine Ev.eq (f := fun k => (head_fold.f k (B (c.drop j)) 2).bind fun t207 => head_Lay.l0 k ((acc ++ [c.take j]).map B) (B (c.drop j)) t207) (fun k => ?_) ?_
          · simp only [head_Lay.l0]
            rw [if_pos (by omega), if_pos (by omega), if_pos (by rw [B_size]; omega), if_pos (by rw [List.length_map]; omega), Int.toNat_natCast, hE, hT, List.map_append]; rfl
          · have hf := fold_v (s := B (c.drop j)) (by rw [B_size]; omega) (least := 2) (by omega) (.inr (by rw [B_size]; omega))
            rw [L_B] at hf
            have hf1 : fldV (c.drop j) 2 = -1 := by unfold fldV; rw [if_pos (by omega)]
            rw [hf1] at hf
            refine Ev.bind2 hf ?_
            refine Ev.eq (f := fun k => (head_field.f k ((acc ++ [c.take j, c.drop j]).map B)).bind fun bt211 => (some (bt211.1, bt211.2.1, bt211.2.2.1, (0 : Int)))) (fun k => ?_) (Ev.bind2 hR (Ev.pure _))
            simp only [head_Lay.l0]
            rw [if_neg (by omega), if_pos (by simp; omega)]
            simp
/-- A field laid anew, of a good name and a good value. -/
theorem lay_good {nm v : ByteArray} (h0 : nm.size ≤ 400) (h1 : v.size ≤ 8500) (c0 : fnL (L nm) = true) (c1 : rgL (L v) = true) : ∃ g, GdL g ∧ g.flatten = L nm ++ (58 :: 32 :: L v) ∧ (flat g).length ≤ 3 * (nm.size + v.size + 2) + 2 ∧
    Ev (fun k => head_Lay.f k nm v) ((mkS (fdV g)).f0, (mkS (fdV g)).f1, (mkS (fdV g)).f2, 0) := by
  have hn := named_f (s := nm) (by omega)
  have hb := byteful_f (s := v) (by omega)
  have hL0 := L_len nm
  have hL1 := L_len v
  rw [c0] at hn
  rw [c1] at hb
  have hc : (nm ++ (⟨#[58, 32]⟩ : ByteArray)) ++ v = B (L nm ++ (58 :: 32 :: L v)) := by
    apply L_inj
    rw [L_app, L_app, L_B]
    simp [L]
  have hcl : (L nm ++ (58 :: 32 :: L v)).length = nm.size + v.size + 2 := by simp [hL0, hL1]; omega
  have q1 : nm.size + 2 ≤ 9223372036854775807 := by omega
  have q2 : (nm ++ (⟨#[58, 32]⟩ : ByteArray)).size + v.size ≤ 9223372036854775807 := by
    rw [ByteArray.size_append]
    have : (⟨#[58, 32]⟩ : ByteArray).size = 2 := rfl
    omega
  have ew : wrap64 ((nm.size : Int) + 3) = ((nm.size + 3 : Nat) : Int) := by unfold wrap64; omega
  have hrg : rgL (L nm ++ (58 :: 32 :: L v)) = true := by
    unfold rgL at c1 ⊢
    unfold fnL at c0
    simp only [Bool.and_eq_true] at c0
    rw [List.all_append, Bool.and_eq_true, List.all_cons, List.all_cons, c1]
    exact ⟨List.all_eq_true.2 (fun c hc => fn_rgC c (List.all_eq_true.1 c0.2 c hc)), by decide⟩
  have key : ∃ a t, (a :: t).flatten = L nm ++ (58 :: 32 :: L v) ∧ (a :: t).length ≤ nm.size + v.size + 3 ∧ (L nm ++ [58, 32]) <+: a ∧ (∀ x ∈ t, whL x = true) ∧
      (∀ R, Ev (fun k => head_field.f k ((a :: t).map B)) R → Ev (fun k => (head_fold.f k (B (L nm ++ (58 :: 32 :: L v))) ((nm.size + 3 : Nat) : Int)).bind fun t203 => head_Lay.l0 k ([] : List ByteArray) (B (L nm ++ (58 :: 32 :: L v))) t203) (R.1, R.2.1, R.2.2.1, 0)) := by
    by_cases hv0 : v.size = 0
    · have hLv : L v = [] := List.eq_nil_of_length_eq_zero (by omega)
      rw [hLv] at hcl hrg ⊢
      have hsz : (B (L nm ++ [58, 32])).size = nm.size + 2 := by rw [B_size]; simp [hL0]
      have hfold : Ev (fun k => head_fold.f k (B (L nm ++ [58, 32])) ((nm.size + 3 : Nat) : Int)) (-1) := by
        unfold head_fold.f
        by_cases h : ((B (L nm ++ [58, 32])).size : Int) ≤ 78
        · simp only [if_pos h]; exact Ev.pure _
        · simp only [if_neg h]
          refine Ev.eq (f := fun _ => some (-1)) (fun k => ?_) (Ev.pure _)
          simp only [head_fold.l0]
          rw [if_neg (by rw [hsz]; omega)]
      refine ⟨L nm ++ [58, 32], [], by simp, by simp, List.prefix_refl _, by simp, fun R hR => Ev.bind2 hfold ?_⟩
      refine Ev.eq (f := fun k => (head_field.f k ([L nm ++ [58, 32]].map B)).bind fun bt211 => (some (bt211.1, bt211.2.1, bt211.2.2.1, (0 : Int)))) (fun k => ?_) (Ev.bind2 hR (Ev.pure _))
      simp only [head_Lay.l0]
      rw [if_neg (by omega), if_pos (by simp)]
      rfl
    · obtain ⟨a, t, e1, e2, e3, e6, _, e4⟩ := lay_wh (L nm ++ (58 :: 32 :: L v)).length (L nm ++ (58 :: 32 :: L v)) [] (nm.size + 3) (Nat.le_refl _) (by omega) (by omega) (by simp; omega) (by simp; omega)
      refine ⟨a, t, by simpa using e1, by simp only [List.nil_append, List.length_nil] at e2; omega, ?_, e6, fun R hR => ?_⟩
      · have : (L nm ++ (58 :: 32 :: L v)).take (nm.size + 3 - 1) = L nm ++ [58, 32] := by
          rw [show nm.size + 3 - 1 = (L nm).length + 2 by omega, List.take_length_add_append]; rfl
        rw [this] at e3
        exact e3
      · have hf := fold_v (s := B (L nm ++ (58 :: 32 :: L v))) (by rw [B_size]; omega) (least := nm.size + 3) (by omega) (.inl (by rw [B_size]; omega))
        rw [L_B] at hf
        exact Ev.bind2 hf (e4 R hR)
  obtain ⟨a, t, e1, e2, e3, e6, e4⟩ := key
  have hfl := flat_le (a :: t)
  rw [e1] at hfl
  have hfdB : fdB (a :: t) = true := by
    obtain ⟨z, hz⟩ := e3
    have hne : a.takeWhile col = L nm := by
      rw [← hz, List.append_assoc, tw_all col (L nm) _ (by unfold fnL at c0; simp only [Bool.and_eq_true] at c0; exact List.all_eq_true.2 (fun c hc => fn_col c (List.all_eq_true.1 c0.2 c hc)))]
      simp [col]
    show (a.any (· == 58) && fnL (rdL (a.takeWhile col))) = true
    rw [hne, rd_name c0, c0, Bool.and_true, ← hz]
    simp
  have hrl : ∀ x ∈ a :: t, rgL x = true := flat_rg (by rw [e1]; exact hrg)
  have p1 := field_f (a := a) (t := t) (by omega)
  have p3 := fdP_eq hfdB
  have k1 := e4 _ p1
  refine ⟨a :: t, ⟨a, t, rfl, hfdB, hrl, e6⟩, e1, by omega, ?_⟩
  unfold head_Lay.f
  refine Ev.bind2 hn ?_
  simp only [if_true]
  refine Ev.bind2 hb ?_
  refine Ev.eq (f := fun k => (head_fold.f k (B (L nm ++ (58 :: 32 :: L v))) ((nm.size + 3 : Nat) : Int)).bind fun t203 => head_Lay.l0 k ([] : List ByteArray) (B (L nm ++ (58 :: 32 :: L v))) t203) (fun k => ?_) ?_
  · simp only [head_Lay.j0, Bool.not_true, Bool.false_eq_true, if_false]
    rw [if_pos q1, if_pos q2, hc, ew]
  · rw [← p3]; exact k1
/-- A line of a name, a colon and a value: what it says. -/
theorem fd_name {g : List (List UInt8)} {nm v : List UInt8} (c0 : fnL nm = true) (h : g.flatten = nm ++ (58 :: v)) : (fdV g).1 = nm ∧ (fdV g).2.1 = trimL v := by
  have ha : nm.all col = true := by
    unfold fnL at c0; simp only [Bool.and_eq_true] at c0
    exact List.all_eq_true.2 (fun c hc => fn_col c (List.all_eq_true.1 c0.2 c hc))
  have h1 : g.flatten.takeWhile col = nm := by
    rw [h, tw_all col nm _ ha]
    simp [col]
  have h2 : (g.flatten.dropWhile col).tail = v := by
    rw [h, dropW_all nm _ ha]
    simp [col, List.dropWhile_cons]
  unfold fdV
  rw [h1, h2, rd_name c0]
  exact ⟨rfl, rfl⟩
theorem dropW_idem (p : UInt8 → Bool) (l : List UInt8) : (l.dropWhile p).dropWhile p = l.dropWhile p := by
  induction l with
  | nil => rfl
  | cons a t ih =>
    by_cases h : p a = true
    · rw [List.dropWhile_cons, if_pos h, ih]
    · rw [List.dropWhile_cons, if_neg h, List.dropWhile_cons, if_neg h]
theorem trim_idem (l : List UInt8) : trimL (trimL l) = trimL l := by
  have h1 : ∀ x : List UInt8, trimL x = ((x.reverse.dropWhile blC).reverse.dropWhile blC) := fun x => (trim_both blC x).symm
  have h2 : (trimL l).dropWhile blC = trimL l := by rw [h1 l, dropW_idem]
  show (((trimL l).dropWhile blC).reverse.dropWhile blC).reverse = _
  rw [h2]
  have : (trimL l).reverse.dropWhile blC = (trimL l).reverse := by
    show (((l.dropWhile blC).reverse.dropWhile blC).reverse).reverse.dropWhile blC = _
    rw [List.reverse_reverse, dropW_idem]
    show _ = (((l.dropWhile blC).reverse.dropWhile blC).reverse).reverse
    rw [List.reverse_reverse]
  rw [this, List.reverse_reverse]
theorem trim_blank (l : List UInt8) : trimL (32 :: l) = trimL l := by
  unfold trimL
  rw [List.dropWhile_cons, if_pos (by decide)]
theorem trim_mem {l : List UInt8} {c : UInt8} (h : c ∈ trimL l) : c ∈ l := by
  unfold trimL at h
  rw [List.mem_reverse] at h
  have h1 := (List.dropWhile_suffix (l := (l.dropWhile blC).reverse) blC).subset h
  rw [List.mem_reverse] at h1
  exact (List.dropWhile_suffix (l := l) blC).subset h1
end Go.Proofs.YtdciiahlakgikaaDoor.S
