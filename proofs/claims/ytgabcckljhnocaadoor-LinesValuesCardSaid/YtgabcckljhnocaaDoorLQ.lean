/- Words quoted as they may stand, and read again: on lists of bytes. -/
import Derived.Test.YtgabcckljhnocaaDoorLW
import Derived.Test.YtgabcckljhnocaaDoorSP
import Derived.Test.YtgabcckljhnocaaDoorQx0
import Derived.Test.YtgabcckljhnocaaDoorQx5
namespace Go.Proofs.YtgabcckljhnocaaDoor.S
open Go.RowKit Go.Proofs.YtgabcckljhnocaaDoor.Q Go.Proofs.YtgabcckljhnocaaDoorW.PrintWords Go.Proofs.YtgabcckljhnocaaDoorW.PrintLast Go.Proofs.YtgabcckljhnocaaDoorW.PrintMore
set_option linter.unusedVariables false
set_option linter.unusedSimpArgs false
/-! ### what stands for a word -/
def odC (c : UInt8) : Bool := c == 58 || (c == 44 || c == 34)
def plW (w : List UInt8) : Bool := w != [] && (trimL w == w && (w.head? != some 35 && !w.any odC))
def quL (w : List UInt8) : List UInt8 := if plW w then w else 34 :: (qtM w ++ [34])
def pnC (c : UInt8) : Bool := decide (32 ≤ c.toNat) && decide (c.toNat ≤ 126)
theorem pn_lt {c : UInt8} (h : pnC c = true) : c.toNat < 128 := by
  unfold pnC at h
  simp at h; omega
theorem qtM_len (w : List UInt8) : (qtM w).length ≤ 2 * w.length := by
  unfold qtM
  induction w with
  | nil => simp
  | cons c w ih =>
    rw [List.flatMap_cons, List.length_append, List.length_cons]
    have : (qtC c).length ≤ 2 := by unfold qtC; split <;> simp
    omega
theorem quL_len (w : List UInt8) : (quL w).length ≤ 2 * w.length + 2 := by
  have := qtM_len w
  unfold quL
  split
  · omega
  · simp; omega
theorem anyOd : ∀ (w : List UInt8), (∀ c ∈ w, c.toNat < 128) → Lib.containsAny w [58, 44, 34] = w.any odC
  | [], _ => rfl
  | c :: w, h => by
    have ih := anyOd w (fun x hx => h x (by simp [hx]))
    have hc : ([58, 44, 34] : List UInt8).contains c = odC c := byte_all (p := fun c => ([58, 44, 34] : List UInt8).contains c = odC c) (by decide +kernel) c
    have hge := Lib.indexAny_ge [58, 44, 34] w
    unfold Lib.containsAny at ih ⊢
    unfold Lib.indexAny
    rw [hc, List.any_cons]
    cases odC c with
    | true => rfl
    | false =>
      rw [Bool.false_or, ← ih]
      simp only [Bool.false_eq_true, if_false]
      by_cases h1 : Lib.indexAny w [58, 44, 34] = -1
      · rw [h1]; rfl
      · rw [if_neg (by simpa using h1)]
        rw [decide_eq_true (show 0 ≤ Lib.indexAny w [58, 44, 34] by omega), decide_eq_true (show 0 ≤ Lib.indexAny w [58, 44, 34] + 1 by omega)]
theorem any_od (w : List UInt8) (h : ∀ c ∈ w, c.toNat < 128) (hs : w.length ≤ 1000000) : strings_ContainsAny.f (B w) (⟨#[58, 44, 34]⟩ : ByteArray) = some (w.any odC) := by
  unfold strings_ContainsAny.f
  have hb : (B w).data.toList = w := L_B w
  rw [if_pos ⟨by rw [B_size]; exact hs, by decide, by rw [hb, List.all_eq_true]; exact fun c hc => decide_eq_true (h c hc), by decide⟩, hb]
  congr 1
  have e : (⟨#[58, 44, 34]⟩ : ByteArray).data.toList = [58, 44, 34] := rfl
  rw [e]
  exact anyOd w h
theorem quote_l0 {s : ByteArray} (hs : s.size ≤ 1000000) : ∀ (l out : List UInt8) (n : Nat), (L s).drop n = l → n ≤ s.size → out.length ≤ 2 * n + 1 →
    Ev (fun k => lines_Quote.l0 k s (nmx out) (s.size : Int) (n : Int)) (B (out ++ (qtM l ++ [34]))) := by
  intro l
  induction l with
  | nil =>
    intro out n hd hn ho
    have := drop_end hd
    refine Ev.eq (f := fun _ => some _) (fun k => ?_) (Ev.pure _)
    simp only [lines_Quote.l0]
    rw [if_neg (by omega), if_pos (by rw [nmx_len]; omega)]
    have : nmx out ++ [34] = nmx (out ++ [34]) := nmx_snoc out 34
    rw [this, str_nmx]
    simp [qtM]
  | cons c l ih =>
    intro out n hd hn ho
    have hlt := drop_lt hd
    have hb := bt_of hd
    have ew := w1 hlt (by omega)
    have e92 : nmx out ++ [92] = nmx (out ++ [92]) := nmx_snoc out 92
    by_cases h1 : c = 34 ∨ c = 92
    · have hq : qtM (c :: l) = 92 :: c :: qtM l := by unfold qtM; rw [List.flatMap_cons, qtC, if_pos h1]; rfl
      have key := ih (out ++ [92] ++ [c]) (n + 1) (drop_next hd) (by omega) (by simp; omega)
      rw [hq]
      rw [show out ++ (92 :: c :: qtM l ++ [34]) = out ++ [92] ++ [c] ++ (qtM l ++ [34]) by simp]
      refine Ev.eq (f := fun k => lines_Quote.l0 k s (nmx (out ++ [92] ++ [c])) (s.size : Int) ((n + 1 : Nat) : Int)) (fun k => ?_) key
      have g1 : (nmx out).length < 140737488355328 := by rw [nmx_len]; omega
      have g2 : (nmx (out ++ [92])).length < 140737488355328 := by rw [nmx_len]; simp; omega
      simp only [lines_Quote.l0]
      rw [if_pos (by omega), if_pos (by omega), if_pos (by omega), hb, ew]
      rcases h1 with rfl | rfl
      · rw [if_pos (by rfl), if_pos g1, Option.bind_some, e92, if_pos g2, nmx_snoc]
      · rw [if_neg (by decide), if_pos (by rfl), if_pos g1, Option.bind_some, e92, if_pos g2, nmx_snoc]
    · have hq : qtM (c :: l) = c :: qtM l := by unfold qtM; rw [List.flatMap_cons, qtC, if_neg h1]; rfl
      have key := ih (out ++ [c]) (n + 1) (drop_next hd) (by omega) (by simp; omega)
      rw [hq]
      rw [show out ++ (c :: qtM l ++ [34]) = out ++ [c] ++ (qtM l ++ [34]) by simp]
      refine Ev.eq (f := fun k => lines_Quote.l0 k s (nmx (out ++ [c])) (s.size : Int) ((n + 1 : Nat) : Int)) (fun k => ?_) key
      have g1 : (nmx out).length < 140737488355328 := by rw [nmx_len]; omega
      have h3 : ¬ (c.toNat : Int) = 34 := fun e => h1 (.inl ((c_eq c 34).1 e))
      have h4 : ¬ (c.toNat : Int) = 92 := fun e => h1 (.inr ((c_eq c 92).1 e))
      simp only [lines_Quote.l0]
      rw [if_pos (by omega), if_pos (by omega), if_pos (by omega), hb, ew, if_neg h3, if_neg h4, if_pos g1, nmx_snoc]
theorem quote_f {w : List UInt8} (hs : w.length ≤ 1000000) (h : ∀ c ∈ w, c.toNat < 128) : Ev (fun k => lines_Quote.f k (B w)) (B (quL w)) := by
  have hz : (B w).size = w.length := B_size w
  have hlong : plW w = false → Ev (fun k => lines_Quote.j0 k (B w) false) (B (quL w)) := by
    intro hp
    unfold quL
    rw [hp]
    refine Ev.eq (f := fun k => lines_Quote.l0 k (B w) ([34] : List Int) ((B w).size : Int) 0) (fun k => by simp only [lines_Quote.j0, Bool.false_eq_true, if_false]) ?_
    exact quote_l0 (s := B w) (by omega) w [34] 0 (by rw [L_B]; rfl) (Nat.zero_le _) (by simp)
  have hshort : plW w = true → Ev (fun k => lines_Quote.j0 k (B w) true) (B (quL w)) := by
    intro hp
    unfold quL
    rw [hp]
    exact Ev.eq (f := fun _ => some _) (fun k => by simp only [lines_Quote.j0, if_true]) (Ev.pure _)
  unfold lines_Quote.f
  cases w with
  | nil =>
    simp only [toL_nil, if_true]
    exact hlong rfl
  | cons c l =>
    simp only [toL_nil, reduceCtorEq, if_false]
    have e2 := ltrim_f (x := B (c :: l)) (by omega)
    rw [L_B] at e2
    refine Ev.bindc e2 ?_
    have eq : ((B (c :: l)).toList = (B (trimL (c :: l))).toList) ↔ trimL (c :: l) = c :: l := by
      rw [toL, toL, L_B, L_B]; exact eq_comm
    simp only [eq]
    have hz2 : 0 < ((B (c :: l)).size : Int) := by rw [B_size]; simp only [List.length_cons]; omega
    by_cases h1 : trimL (c :: l) = c :: l
    · simp only [h1, if_true, if_pos hz2, bt_hd]
      by_cases h2 : c = 35
      · subst h2
        simp only [show ((35 : UInt8).toNat : Int) = 35 from rfl, if_true]
        refine hlong ?_
        unfold plW; simp
      · have h2' : ¬ (c.toNat : Int) = 35 := fun e => h2 ((c_eq c 35).1 e)
        simp only [if_neg h2']
        refine Ev.bindc (any_od (c :: l) h hs) ?_
        have hp : plW (c :: l) = !(c :: l).any odC := by
          unfold plW
          rw [h1, show ((c :: l) != []) = true from rfl]
          simp [h2]
        cases ha : (c :: l).any odC with
        | true => rw [ha] at hp; exact hlong hp
        | false => rw [ha] at hp; exact hshort hp
    · simp only [if_neg h1]
      refine hlong ?_
      unfold plW
      rw [show (trimL (c :: l) == c :: l) = false by rw [beq_eq_false_iff_ne]; exact h1]
      simp
/-! ### .. and read again -/
theorem lq_qt : ∀ (w out r : List UInt8), lqL (qtM w ++ 34 :: r) out = some (out ++ w, r)
  | [], out, r => by rw [show qtM [] = [] from rfl, List.nil_append, lq_end]; simp
  | c :: w, out, r => by
    by_cases h1 : c = 34 ∨ c = 92
    · have hq : qtM (c :: w) = 92 :: c :: qtM w := by unfold qtM; rw [List.flatMap_cons, qtC, if_pos h1]; rfl
      rw [hq, List.cons_append, List.cons_append, lq_pair, lq_qt w]; simp
    · have hq : qtM (c :: w) = c :: qtM w := by unfold qtM; rw [List.flatMap_cons, qtC, if_neg h1]; rfl
      have h3 : ¬ c = 34 := fun e => h1 (.inl e)
      have h4 : ¬ c = 92 := fun e => h1 (.inr e)
      rw [hq, List.cons_append, lq_else h3 h4, lq_qt w]; simp
/-- What a plain word is. -/
theorem plain_spec {w : List UInt8} (h : plW w = true) : (∃ c l, w = c :: l ∧ blC c = false ∧ c ≠ 34) ∧ trimL w = w ∧ (58 : UInt8) ∉ w ∧ (44 : UInt8) ∉ w ∧ (34 : UInt8) ∉ w := by
  unfold plW at h
  simp only [Bool.and_eq_true, bne_iff_ne, ne_eq, beq_iff_eq, Bool.not_eq_true', List.any_eq_false] at h
  obtain ⟨h1, h2, h3, h4⟩ := h
  have hm : ∀ d : UInt8, odC d = true → d ∉ w := fun d hd hm => by have := h4 d hm; rw [hd] at this; exact this rfl
  refine ⟨?_, h2, hm 58 rfl, hm 44 rfl, hm 34 rfl⟩
  cases w with
  | nil => exact absurd rfl h1
  | cons c l =>
    refine ⟨c, l, rfl, ?_, fun e => hm 34 rfl (by rw [e]; simp)⟩
    cases hb : blC c with
    | false => rfl
    | true =>
      exfalso
      have e := trimL_pre (p := [c]) (by simp [hb]) l
      rw [List.singleton_append, h2] at e
      have := trimL_len l
      rw [← e] at this
      simp only [List.length_cons] at this
      omega
theorem bl_34 : blC 34 = false := by decide
theorem qu_head (w : List UInt8) : ∃ c l, quL w = c :: l ∧ blC c = false := by
  unfold quL
  split
  · rename_i h
    obtain ⟨⟨c, l, e, hc, _⟩, _⟩ := plain_spec h
    exact ⟨c, l, e, hc⟩
  · exact ⟨34, _, rfl, bl_34⟩
theorem trim_qu {p : List UInt8} (hp : p.all blC = true) (w m : List UInt8) {d : UInt8} (hd : blC d = false) (R : List UInt8) : trimL (p ++ (quL w ++ (m ++ d :: R))) = quL w ++ (m ++ d :: rdL R) := by
  obtain ⟨c, l, e, hc⟩ := qu_head w
  rw [trimL_pre hp, e, List.cons_append, trimL_head hc, ← List.cons_append, ← List.append_assoc, rdL_mid hd, List.append_assoc]
theorem trim_qu_end {p e : List UInt8} (hp : p.all blC = true) (he : e.all blC = true) (w : List UInt8) : trimL (p ++ (quL w ++ e)) = quL w := by
  rw [trimL_pre hp, trimL_end he]
  unfold quL
  split
  · rename_i h
    exact (plain_spec h).2.1
  · rw [trimL_head bl_34, ← List.cons_append, rdL_mid bl_34]; rfl
theorem word_mid {p m : List UInt8} (hp : p.all blC = true) (hm : m.all blC = true) (w : List UInt8) {d : UInt8} (hd : d = 44 ∨ d = 58) (R : List UInt8) : wdL (p ++ (quL w ++ (m ++ d :: R))) d = (w, rdL R, true, true) := by
  have hdb : blC d = false := by rcases hd with rfl | rfl <;> decide
  unfold wdL
  rw [trim_qu hp w m hdb]
  unfold quL
  by_cases h : plW w = true
  · rw [if_pos h]
    obtain ⟨⟨c, l, e, hc, hq⟩, ht, h58, h44, h34⟩ := plain_spec h
    have hdw : d ∉ w ++ m := by
      intro hx
      rcases List.mem_append.1 hx with hx | hx
      · rcases hd with rfl | rfl
        · exact h44 hx
        · exact h58 hx
      · have := List.all_eq_true.1 hm d hx
        rw [hdb] at this; cases this
    have hcut : cutC d (w ++ (m ++ d :: rdL R)) = (w ++ m, rdL R, true) := by rw [← List.append_assoc]; exact cut_hit hdw _
    have e2 : w ++ (m ++ d :: rdL R) = c :: (l ++ (m ++ d :: rdL R)) := by rw [e]; rfl
    rw [e2]
    simp only [if_neg hq]
    rw [← e2, hcut]
    simp only []
    rw [trimL_end hm, ht]
    have h1 : (w != []) = true := by rw [e]; rfl
    have h2 : w.contains 34 = false := by rw [Bool.eq_false_iff]; exact fun x => h34 (List.contains_iff_mem.1 x)
    rw [h1, h2]; rfl
  · rw [if_neg h]
    have hk : lqL (qtM w ++ [34] ++ (m ++ d :: rdL R)) [] = some (w, m ++ d :: rdL R) := by rw [List.append_assoc, List.singleton_append, lq_qt]; rfl
    have ht : trimL (m ++ d :: rdL R) = d :: rdL R := by rw [trimL_pre hm, trimL_head hdb, rd_head hdb, rdL_idem]
    rw [List.cons_append]
    simp only [if_true, hk, ht]
theorem word_end {p e : List UInt8} (hp : p.all blC = true) (he : e.all blC = true) (w : List UInt8) {d : UInt8} (hd : d = 44 ∨ d = 58) : wdL (p ++ (quL w ++ e)) d = (w, [], false, true) := by
  unfold wdL
  rw [trim_qu_end hp he]
  unfold quL
  by_cases h : plW w = true
  · rw [if_pos h]
    obtain ⟨⟨c, l, e, hc, hq⟩, ht, h58, h44, h34⟩ := plain_spec h
    have hdw : d ∉ w := by
      rcases hd with rfl | rfl
      · exact h44
      · exact h58
    have hcut : cutC d w = (w, [], false) := cut_miss hdw
    rw [e]
    simp only [if_neg hq]
    rw [← e, hcut]
    simp only []
    rw [ht]
    have h1 : (w != []) = true := by rw [e]; rfl
    have h2 : w.contains 34 = false := by rw [Bool.eq_false_iff]; exact fun x => h34 (List.contains_iff_mem.1 x)
    rw [h1, h2]; rfl
  · rw [if_neg h]
    have hk : lqL (qtM w ++ [34]) [] = some (w, []) := by rw [lq_qt]; rfl
    simp only [if_true, hk, trimL_nil]
theorem wd_rd (s : List UInt8) (d : UInt8) : wdL (rdL s) d = wdL s d := by unfold wdL; rw [trimL_rd]
theorem wd_end {e : List UInt8} (he : e.all blC = true) (s : List UInt8) (d : UInt8) : wdL (s ++ e) d = wdL s d := by unfold wdL; rw [trimL_end he]
/-! ### values -/
theorem wd_len (s : List UInt8) (d : UInt8) : (wdL s d).2.1.length ≤ s.length ∧ (wdL s d).1.length ≤ s.length := by
  have h0 := trimL_len s
  unfold wdL
  generalize trimL s = t at h0
  cases t with
  | nil => simp
  | cons c l =>
    simp only [List.length_cons] at h0
    simp only []
    split
    · cases hk : lqL l [] with
      | none => simp
      | some x =>
        obtain ⟨w, r⟩ := x
        have h1 := lq_len l.length l [] w r (Nat.le_refl _) hk
        have h2 := trimL_len r
        simp only [List.length_nil] at h1
        simp only []
        generalize trimL r = t at h2
        cases t with
        | nil => simp only [List.length_nil]; omega
        | cons x r' =>
          simp only [List.length_cons] at h2
          simp only []
          split
          · simp only []; omega
          · simp only [List.length_cons]; omega
    · have h1 := cutC_len d (c :: l)
      have h2 := trimL_len (cutC d (c :: l)).1
      simp only [List.length_cons] at h1 ⊢
      omega
/-- Values behind a colon: so many rounds at the most. -/
def vlL : Nat → List UInt8 → List (List UInt8) → Option (List (List UInt8) × Int)
  | 0, _, _ => none
  | n + 1, s, out =>
    if (wdL s 44).2.2.2 then
      (if (wdL s 44).2.2.1 then vlL n (wdL s 44).2.1 (out ++ [(wdL s 44).1])
       else if 16 < (out ++ [(wdL s 44).1]).length then some ([], 7) else some (out ++ [(wdL s 44).1], 0))
    else some ([], 5)
theorem vl_f : ∀ (n : Nat) (s : List UInt8) (out : List (List UInt8)) (X : List (List UInt8) × Int), s.length ≤ 1000000 → out.length + n ≤ 1000000 → vlL n s out = some X → Ev (fun k => lines_Values.l0 k (B s) (out.map B) true) (X.1.map B, X.2) := by
  intro n
  induction n with
  | zero => intro s out X _ _ h; simp [vlL] at h
  | succ n ih =>
    intro s out X hs ho h
    have hz : (B s).size ≤ 70368744 := by rw [B_size]; omega
    have hw := wd_len s 44
    unfold vlL at h
    by_cases h1 : (wdL s 44).2.2.2 = true
    · rw [if_pos h1] at h
      have hstep : wdL (L (B s)) 44 = ((wdL s 44).1, (wdL s 44).2.1, (wdL s 44).2.2.1, true) := by rw [L_B, ← h1]
      refine values_step hz (by rw [List.length_map]; omega) hstep ?_
      have hm : out.map B ++ [B (wdL s 44).1] = (out ++ [(wdL s 44).1]).map B := by simp
      rw [hm]
      by_cases h2 : (wdL s 44).2.2.1 = true
      · rw [if_pos h2] at h
        rw [h2]
        exact ih _ _ X (by omega) (by simp; omega) h
      · rw [if_neg h2] at h
        rw [Bool.eq_false_iff.2 h2]
        have he := values_end (B (wdL s 44).2.1) (out := (out ++ [(wdL s 44).1]).map B)
        rw [List.length_map] at he
        by_cases h3 : 16 < (out ++ [(wdL s 44).1]).length
        · rw [if_pos h3] at h he
          obtain rfl := Option.some.inj h
          exact he
        · rw [if_neg h3] at h he
          obtain rfl := Option.some.inj h
          exact he
    · rw [if_neg h1] at h
      obtain rfl := Option.some.inj h
      exact values_bad hz (by rw [L_B]; exact Bool.eq_false_iff.2 h1)
theorem vl_rd (n : Nat) (s : List UInt8) (out : List (List UInt8)) : vlL n (rdL s) out = vlL n s out := by
  cases n with
  | zero => rfl
  | succ n => simp only [vlL, wd_rd]
theorem vl_end (n : Nat) {e : List UInt8} (he : e.all blC = true) (s : List UInt8) (out : List (List UInt8)) : vlL n (s ++ e) out = vlL n s out := by
  cases n with
  | zero => rfl
  | succ n => simp only [vlL, wd_end he]
theorem vl_mid {p m : List UInt8} (hp : p.all blC = true) (hm : m.all blC = true) (n : Nat) (w R : List UInt8) (out : List (List UInt8)) : vlL (n + 1) (p ++ (quL w ++ (m ++ 44 :: R))) out = vlL n R (out ++ [w]) := by
  simp only [vlL, word_mid hp hm w (.inl rfl) R, if_true, vl_rd]
theorem vl_last {p e : List UInt8} (hp : p.all blC = true) (he : e.all blC = true) (n : Nat) (w : List UInt8) (out : List (List UInt8)) : vlL (n + 1) (p ++ (quL w ++ e)) out = if 16 < (out ++ [w]).length then some ([], 7) else some (out ++ [w], 0) := by
  simp only [vlL, word_end hp he w (.inl rfl), if_true, Bool.false_eq_true, if_false]
/-- Words that are joined by commas: each is read, and what stands behind the last comma. -/
theorem vl_join {p m q : List UInt8} (hp : p.all blC = true) (hm : m.all blC = true) (hq : q.all blC = true) (R : List UInt8) : ∀ (ws : List (List UInt8)) (a : List UInt8) (n : Nat) (out : List (List UInt8)), a.all blC = true → ws ≠ [] →
    vlL (n + ws.length) (a ++ (Lib.join (ws.map quL) (m ++ 44 :: p) ++ (q ++ 44 :: R))) out = vlL n R (out ++ ws)
  | [], _, _, _, _, h => absurd rfl h
  | [w], a, n, out, ha, _ => by
    rw [List.map_cons, List.map_nil, Lib.join_one]
    exact vl_mid ha hq n w R out
  | w :: y :: r, a, n, out, ha, _ => by
    have ih := vl_join hp hm hq R (y :: r) p n (out ++ [w]) hp (by simp)
    rw [List.map_cons, List.map_cons, join_cons2, ← List.map_cons]
    rw [show a ++ (quL w ++ (m ++ 44 :: p ++ Lib.join ((y :: r).map quL) (m ++ 44 :: p)) ++ (q ++ 44 :: R)) = a ++ (quL w ++ (m ++ 44 :: (p ++ (Lib.join ((y :: r).map quL) (m ++ 44 :: p) ++ (q ++ 44 :: R))))) by simp]
    rw [show n + (w :: y :: r).length = n + (y :: r).length + 1 by simp only [List.length_cons]; omega, vl_mid ha hm, ih]
    simp
theorem vl_words {p m e : List UInt8} (hp : p.all blC = true) (hm : m.all blC = true) (he : e.all blC = true) : ∀ (ws : List (List UInt8)) (a : List UInt8) (n : Nat) (out : List (List UInt8)), a.all blC = true → ws ≠ [] →
    vlL (n + ws.length) (a ++ (Lib.join (ws.map quL) (m ++ 44 :: p) ++ e)) out = if 16 < (out ++ ws).length then some ([], 7) else some (out ++ ws, 0)
  | [], _, _, _, _, h => absurd rfl h
  | [w], a, n, out, ha, _ => by
    rw [List.map_cons, List.map_nil, Lib.join_one]
    exact vl_last ha he n w out
  | w :: y :: r, a, n, out, ha, _ => by
    have ih := vl_words hp hm he (y :: r) p n (out ++ [w]) hp (by simp)
    rw [List.map_cons, List.map_cons, join_cons2, ← List.map_cons]
    rw [show a ++ (quL w ++ (m ++ 44 :: p ++ Lib.join ((y :: r).map quL) (m ++ 44 :: p)) ++ e) = a ++ (quL w ++ (m ++ 44 :: (p ++ (Lib.join ((y :: r).map quL) (m ++ 44 :: p) ++ e)))) by simp]
    rw [show n + (w :: y :: r).length = n + (y :: r).length + 1 by simp only [List.length_cons]; omega, vl_mid ha hm, ih]
    simp
/-! ### words of printable bytes -/
def pnW (c : UInt8) : UInt8 := 32 + c % 95
theorem pn_ok (c : UInt8) : pnC (pnW c) = true := byte_all (p := fun c => pnC (pnW c) = true) (by decide +kernel) c
theorem pn_num (c : UInt8) : (32 + Int.tmod (c.toNat : Int) 95) % 256 = ((pnW c).toNat : Int) := byte_all (p := fun c => (32 + Int.tmod (c.toNat : Int) 95) % 256 = ((pnW c).toNat : Int)) (by decide +kernel) c
theorem pn_pr (c : UInt8) : pnC c = true → prC c = true := byte_all (p := fun c => pnC c = true → prC c = true) (by decide +kernel) c
theorem printed_l0 : ∀ (d : Nat) (a b : List UInt8), b.length = d → a.length + b.length ≤ 1000000 →
    Ev (fun k => postriderlaw13_printed.l0 k (nmx (a.map pnW ++ b)) ((a.length + b.length : Nat) : Int) (a.length : Int)) (B ((a ++ b).map pnW)) := by
  intro d
  induction d with
  | zero =>
    intro a b h hs
    obtain rfl : b = [] := List.eq_nil_of_length_eq_zero h
    refine Ev.eq (f := fun _ => some _) (fun k => ?_) (Ev.pure _)
    simp only [postriderlaw13_printed.l0]
    rw [if_neg (by simp), str_nmx]
    simp
  | succ d ih =>
    intro a b h hs
    cases b with
    | nil => simp at h
    | cons c b =>
      simp only [List.length_cons] at h hs
      have key := ih (a ++ [c]) b (by omega) (by simp; omega)
      rw [show a ++ c :: b = a ++ [c] ++ b by simp]
      refine Ev.eq (f := fun k => postriderlaw13_printed.l0 k (nmx ((a ++ [c]).map pnW ++ b)) (((a ++ [c]).length + b.length : Nat) : Int) ((a ++ [c]).length : Int)) (fun k => ?_) key
      have ew : wrap64 ((a.length : Int) + 1) = ((a ++ [c]).length : Int) := by rw [wk (by omega) (by omega)]; simp
      have hrd : rd (nmx (a.map pnW ++ c :: b)) (a.length : Int) = (c.toNat : Int) := by
        unfold rd nmx
        rw [List.map_append, List.map_cons, Int.toNat_natCast, List.getD_eq_getElem?_getD, List.getElem?_append_right (by simp)]
        simp
      have hset : (nmx (a.map pnW ++ c :: b)).set (a.length : Int).toNat ((pnW c).toNat : Int) = nmx ((a ++ [c]).map pnW ++ b) := by
        unfold nmx
        rw [List.map_append, List.map_cons, Int.toNat_natCast, List.set_append_right _ _ (by simp)]
        simp
      have g1 : (a.length : Int) < ((a.length + (c :: b).length : Nat) : Int) := by simp only [List.length_cons]; omega
      have g2 : (a.length : Int) < ((nmx (a.map pnW ++ c :: b)).length : Int) := by rw [nmx_len, List.length_append, List.length_map]; simp only [List.length_cons]; omega
      simp only [postriderlaw13_printed.l0]
      rw [if_pos g1, if_pos (by omega), if_pos g2, hrd, pn_num, hset, ew]
      have e3 : a.length + (c :: b).length = (a ++ [c]).length + b.length := by simp; omega
      rw [e3]
theorem printed_f {s : ByteArray} (hs : s.size ≤ 1000000) : Ev (fun k => postriderlaw13_printed.f k s) (B ((L s).map pnW)) := by
  have hl := L_len s
  unfold postriderlaw13_printed.f
  simp only [if_pos (show s.size ≤ 9223372036854775807 by omega)]
  have key := printed_l0 (L s).length [] (L s) rfl (by simp; omega)
  have e : Kd.numsOf s = nmx (L s) := rfl
  simp only [Option.bind_some, e, nmx_len]
  simpa using key
end Go.Proofs.YtgabcckljhnocaaDoor.S
