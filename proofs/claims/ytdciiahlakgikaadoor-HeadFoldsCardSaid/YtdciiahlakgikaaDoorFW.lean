/- What is laid of a name 'To' and a value of letters, commas and blanks. -/
import Derived.Test.YtdciiahlakgikaaDoorFL
import Derived.Test.YtdciiahlakgikaaDoorQx2
import Derived.Test.YtdciiahlakgikaaDoorQx5
namespace Go.Proofs.YtdciiahlakgikaaDoor.S
open Go.RowKit Go.Proofs.YtdciiahlakgikaaDoor.Q Go.Proofs.YtdciiahlakgikaaDoorW.PrintWords Go.Proofs.YtdciiahlakgikaaDoorW.PrintLast Go.Proofs.YtdciiahlakgikaaDoorW.PrintMore
set_option linter.unusedVariables false
set_option linter.unusedSimpArgs false
def vC (c : UInt8) : Bool := (decide (97 ≤ c.toNat) && decide (c.toNat ≤ 122)) || c == 44 || c == 32
theorem v_rg (c : UInt8) : vC c = true → rgC c = true := byte_all (p := fun c => vC c = true → rgC c = true) (by decide +kernel) c
theorem v_bl (c : UInt8) : vC c = true → [32].contains c = blC c := byte_all (p := fun c => vC c = true → [32].contains c = blC c) (by decide +kernel) c
theorem dw_congr {p q : UInt8 → Bool} : ∀ l : List UInt8, (∀ x ∈ l, p x = q x) → l.dropWhile p = l.dropWhile q
  | [], _ => rfl
  | a :: l, h => by
    rw [List.dropWhile_cons, List.dropWhile_cons, h a (by simp), dw_congr l (fun x hx => h x (by simp [hx]))]
theorem trim_sp {v : List UInt8} (h : v.all vC = true) : strings_Trim.f (B v) (⟨#[32]⟩ : ByteArray) = if v.length ≤ 9223372036854775807 then some (B (trimL v)) else none := by
  unfold strings_Trim.f
  have hs : (B v).size = v.length := B_size v
  have : Lib.trimS (B v).data.toList (⟨#[32]⟩ : ByteArray).data.toList = trimL v := by
    unfold Lib.trimS Lib.trimLeftS Lib.trimRightS
    simp only [show (⟨#[32]⟩ : ByteArray).data.toList = [32] from rfl, show (B v).data.toList = v from L_B v]
    have hv := List.all_eq_true.1 h
    have e1 : v.reverse.dropWhile (fun x => [32].contains x) = v.reverse.dropWhile blC := dw_congr _ (fun x hx => v_bl x (hv x (by simpa using hx)))
    rw [show v.reverse.dropWhile ([32].contains ·) = v.reverse.dropWhile blC from e1]
    rw [show ((v.reverse.dropWhile blC).reverse.dropWhile ([32].contains ·)) = ((v.reverse.dropWhile blC).reverse.dropWhile blC) from dw_congr _ (fun x hx => v_bl x (hv x (by
      have h1 := List.mem_reverse.1 hx
      have := (List.dropWhile_suffix (l := v.reverse) blC).subset h1
      simpa using this)))]
    exact trim_both blC v
  by_cases hl : v.length ≤ 9223372036854775807
  · rw [if_pos ⟨by omega, by decide, by decide⟩, if_pos hl, this]; rfl
  · rw [if_neg (fun h => hl (by have := h.1; omega)), if_neg hl]
theorem lite_suf {s p : ByteArray} (hs : s.size ≤ 70368744177) : stringslite_HasSuffix.f s p = some (Lib.hasSuffix (L s) (L p)) := by
  have hl := L_len s
  have hp := L_len p
  unfold stringslite_HasSuffix.f
  rw [hasS_drop, hl, hp]
  by_cases h2 : p.size ≤ s.size
  · rw [if_pos (by omega), wk (by omega) (by omega), if_pos (by omega), if_pos (by omega), show ((s.size : Int) - (p.size : Int)).toNat = s.size - p.size by omega, toL, toL, L_ext_end, decide_eq_true h2]
    rfl
  · rw [if_neg (by omega), decide_eq_false h2]
    rfl
theorem suf_f {s p : ByteArray} (hs : s.size ≤ 70368744177) : strings_HasSuffix.f s p = some (Lib.hasSuffix (L s) (L p)) := by
  unfold strings_HasSuffix.f
  rw [lite_suf hs]; rfl
theorem trimsuf_f {b : List UInt8} (hs : b.length ≤ 1000000) : strings_TrimSuffix.f (B (b ++ [13, 10])) (⟨#[13, 10]⟩ : ByteArray) = some (B b) := by
  unfold strings_TrimSuffix.f stringslite_TrimSuffix.f
  have hz : (B (b ++ [13, 10])).size = b.length + 2 := by rw [B_size]; simp
  have hp : (⟨#[13, 10]⟩ : ByteArray).size = 2 := rfl
  rw [lite_suf (by omega), L_B, show L (⟨#[13, 10]⟩ : ByteArray) = [13, 10] from rfl, (suffix_trim b).1, Option.bind_some, if_pos rfl, hz, hp, wk (by omega) (by omega), if_pos (by omega), if_pos (by omega), Option.bind_some, ext_B, L_B]
  rw [show ((((b.length + 2 : Nat) : Int) - ((2 : Nat) : Int)).toNat - 0) = b.length by omega]
  simp
theorem no_in {x : List UInt8} {m : Nat} (h : ∀ i, m ≤ i → ¬ cand x i) (hm : 1 ≤ m) : Lib.contains (x.drop (m - 1)) [44, 32] = false := by
  unfold Lib.contains
  rw [Lib.index_none]
  · rfl
  · intro j hj
    cases ho : Lib.occAt (x.drop (m - 1)) [44, 32] j with
    | false => rfl
    | true =>
      exfalso
      have h2 : ([44, 32] : List UInt8).isPrefixOf ((x.drop (m - 1)).drop j) = true := by simpa [Lib.occAt] using ho
      obtain ⟨t, ht⟩ := List.isPrefixOf_iff_prefix.1 h2
      rw [List.drop_drop] at ht
      have e1 : x[m - 1 + j]? = some 44 := by
        have := congrArg (·[0]?) ht
        simpa [List.getElem?_drop] using this.symm
      have e2 : x[m - 1 + j + 1]? = some 32 := by
        have := congrArg (·[1]?) ht
        simpa [List.getElem?_drop] using this.symm
      refine h (m - 1 + j + 1) (by omega) ⟨by omega, e2, ?_⟩
      rw [show m - 1 + j + 1 - 1 = m - 1 + j by omega]
      exact e1
theorem first_To {a : List UInt8} {t : List (List UInt8)} {v : List UInt8} (h : (a :: t).flatten = 84 :: 111 :: 58 :: 32 :: v) (hl : t ≠ [] → a.getLast? = some 44) : ∃ a', a = 84 :: 111 :: 58 :: a' := by
  rw [List.flatten_cons] at h
  by_cases ht : t = []
  · subst ht
    simp at h
    exact ⟨_, h⟩
  · have hl := hl ht
    match a, hl, h with
    | [], hl, _ => simp at hl
    | [x], hl, h => simp at hl h; rw [h.1] at hl; cases hl
    | [x, y], hl, h => simp at hl h; rw [h.2.1] at hl; cases hl
    | x :: y :: z :: a', hl, h =>
      simp at h
      obtain ⟨rfl, rfl, rfl, _⟩ := h
      exact ⟨a', rfl⟩
theorem lay_To {v : List UInt8} (hv : v.all vC = true) (hl : v.length ≤ 3000) :
    ∃ ls, ls ≠ [] ∧ ls.flatten = 84 :: 111 :: 58 :: 32 :: v ∧ LnsOk ls ∧ ls.length ≤ 3010 ∧ Ev (fun k => head_Lay.f k (⟨#[84, 111]⟩ : ByteArray) (B v)) (B [84, 111], B (trimL v), B (flat ls), 0) := by
  have hvL := List.all_eq_true.1 hv
  have e0 : ((⟨#[84, 111]⟩ : ByteArray) ++ (⟨#[58, 32]⟩ : ByteArray)) ++ B v = B (84 :: 111 :: 58 :: 32 :: v) := L_inj (by rw [L_app, L_app, L_B, L_B]; rfl)
  obtain ⟨r, h1, h2⟩ := fold_f (s := B (84 :: 111 :: 58 :: 32 :: v)) (by rw [B_size]; simp; omega) (least := 5) (by omega)
  rw [L_B] at h2
  obtain ⟨ls, g1, g2, g3, g4, g5⟩ := lay_l0 _ (84 :: 111 :: 58 :: 32 :: v) [] r (Nat.le_refl _) (fun k x hk => by simp at hk) (fun h => absurd rfl h) (by simpa using h2) (by simp; omega)
  rw [List.flatten_nil, List.nil_append] at g2
  simp only [List.length_nil, List.length_cons, Nat.zero_add] at g4
  refine ⟨ls, g1, g2, g3, by omega, ?_⟩
  cases ls with
  | nil => exact absurd rfl g1
  | cons a t =>
    obtain ⟨a', ha⟩ := first_To g2 (fun ht => (g3 0 a rfl).2 (by cases t with | nil => exact absurd rfl ht | cons => simp))
    have hfl : (flat (a :: t)).length ≤ 100000 := by
      have e1 : ∀ l : List (List UInt8), (flat l).length = l.flatten.length + 2 * l.length := by
        intro l
        induction l with
        | nil => rfl
        | cons b l ih => rw [flat_cons, List.flatten_cons]; simp only [List.length_append, List.length_cons, ih]; omega
      rw [e1, g2]; simp only [List.length_cons] at g4 ⊢; omega
    have hB : fdB (a :: t) = true := by
      rw [ha]
      simp [fdB, List.takeWhile, col, rdL, List.dropWhile, blC]
      decide
    have hF := fdP_eq hB
    have hV : fdV (a :: t) = ([84, 111], trimL v, flat (a :: t)) := by
      unfold fdV
      rw [g2]
      have e1 : (84 :: 111 :: 58 :: 32 :: v).takeWhile col = [84, 111] := by simp [List.takeWhile, col]
      have e2 : (84 :: 111 :: 58 :: 32 :: v).dropWhile col = 58 :: 32 :: v := by simp [List.dropWhile, col]
      rw [e1, e2]
      have e3 : rdL [84, 111] = [84, 111] := by decide
      have e4 : trimL (32 :: v) = trimL v := by simp [trimL, List.dropWhile, blC]
      rw [List.tail_cons, e3, e4]
    rw [hV] at hF
    have f0 := congrArg S41.f0 hF
    have f1 := congrArg S41.f1 hF
    have f2 := congrArg S41.f2 hF
    simp only [mkS] at f0 f1 f2
    have hg := g5 _ (field_f hfl)
    simp only [f0, f1, f2] at hg
    unfold head_Lay.f
    have hn : fnL (L (⟨#[84, 111]⟩ : ByteArray)) = true := by decide
    have hr : rgL (L (B v)) = true := by rw [L_B]; exact List.all_eq_true.2 (fun c hc => v_rg c (hvL c hc))
    have q1 := named_f (s := (⟨#[84, 111]⟩ : ByteArray)) (by decide)
    have q2 := byteful_f (s := B v) (by rw [B_size]; omega)
    rw [hn] at q1
    rw [hr] at q2
    refine Ev.bind2 q1 ?_
    simp only [if_true]
    refine Ev.bind2 q2 ?_
    refine Ev.eq (fun k => ?_) (Ev.bind2 h1 (by simpa using hg))
    simp only [head_Lay.j0, Bool.not_true]
    have z1 : (⟨#[84, 111]⟩ : ByteArray).size = 2 := rfl
    have z2 : ((⟨#[84, 111]⟩ : ByteArray) ++ (⟨#[58, 32]⟩ : ByteArray)).size = 4 := rfl
    rw [if_neg (by simp), if_pos (by rw [z1]; omega), if_pos (by rw [z2, B_size]; omega), e0, z1, show wrap64 (((2 : Nat) : Int) + 3) = ((5 : Nat) : Int) by unfold wrap64; omega]
end Go.Proofs.YtdciiahlakgikaaDoor.S
