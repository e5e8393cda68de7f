/- Letters, atoms, splitting, trimming, numbers, small letters: what the program's functions and the document's come to. -/
import Derived.Test.YtfeihligcondgaaDoorS
import Derived.Test.YtfeihligcondgaaDoorQx2
import Derived.Test.YtfeihligcondgaaDoorQx3
import Derived.Test.YtfeihligcondgaaDoorQx4
import Derived.Test.YtfeihligcondgaaDoorQx5
import Derived.Test.YtfeihligcondgaaDoorQx6
namespace Go.Proofs.YtfeihligcondgaaDoor.S
open Go.RowKit Go.Proofs.YtfeihligcondgaaDoor.Q Go.Proofs.YtfeihligcondgaaDoorW.PrintWords Go.Proofs.YtfeihligcondgaaDoorW.PrintLast Go.Proofs.YtfeihligcondgaaDoorW.PrintMore
set_option linter.unusedVariables false
set_option linter.unusedSimpArgs false
/-! ### lists -/
def spL (c : UInt8) : List UInt8 → List UInt8 → List (List UInt8)
  | [], cur => [cur]
  | x :: l, cur => if x = c then cur :: spL c l [] else spL c l (cur ++ [x])
theorem ix_none {c : UInt8} : ∀ {l : List UInt8}, Lib.indexByte l c < 0 → c ∉ l
  | [], _ => by simp
  | b :: l, h => by
    unfold Lib.indexByte at h
    by_cases e : b == c
    · rw [if_pos e] at h; omega
    · rw [if_neg e] at h
      have hge := Lib.indexByte_ge l c
      have : Lib.indexByte l c < 0 := by
        split at h
        · rename_i h2; simp at h2; omega
        · omega
      have := ix_none this
      simp at e
      simp [this]
      exact fun h => e h.symm
theorem ix_some {c : UInt8} : ∀ {l : List UInt8} {k : Nat}, Lib.indexByte l c = (k : Int) → k < l.length ∧ c ∉ l.take k ∧ l.drop k = c :: l.drop (k + 1)
  | [], k, h => by simp [Lib.indexByte] at h
  | b :: l, k, h => by
    unfold Lib.indexByte at h
    by_cases e : b == c
    · rw [if_pos e] at h
      obtain rfl : k = 0 := by omega
      simp at e; subst e; simp
    · rw [if_neg e] at h
      have hge := Lib.indexByte_ge l c
      split at h
      · omega
      · rename_i h2
        simp at h2 e
        obtain ⟨j, rfl⟩ : ∃ j, k = j + 1 := ⟨k - 1, by omega⟩
        have := ix_some (l := l) (k := j) (c := c) (by omega)
        obtain ⟨h3, h4, h5⟩ := this
        refine ⟨by simp; omega, ?_, by simpa using h5⟩
        simp [h4]
        exact fun h => e h.symm
theorem sp_none {c : UInt8} : ∀ (l cur : List UInt8), c ∉ l → spL c l cur = [cur ++ l]
  | [], cur, _ => by simp [spL]
  | x :: l, cur, h => by
    simp at h
    rw [spL, if_neg (fun e => h.1 e.symm), sp_none l _ h.2]; simp
theorem sp_some {c : UInt8} : ∀ (a b cur : List UInt8), c ∉ a → spL c (a ++ c :: b) cur = (cur ++ a) :: spL c b []
  | [], b, cur, _ => by simp [spL]
  | x :: a, b, cur, h => by
    simp at h
    rw [List.cons_append, spL, if_neg (fun e => h.1 e.symm), sp_some a b _ h.2]; simp
theorem sp_len (c : UInt8) : ∀ (l cur : List UInt8), (spL c l cur).length ≤ l.length + 1
  | [], cur => by simp [spL]
  | x :: l, cur => by
    rw [spL]; split
    · have := sp_len c l []; simp; omega
    · have := sp_len c l (cur ++ [x]); simp; omega
theorem sp_small (c : UInt8) : ∀ (l cur : List UInt8), ∀ p ∈ spL c l cur, p.length ≤ cur.length + l.length
  | [], cur, p, h => by simp [spL] at h; subst h; simp
  | x :: l, cur, p, h => by
    rw [spL] at h
    split at h
    · rcases List.mem_cons.1 h with rfl | h
      · simp
      · have := sp_small c l [] p h; simp at this ⊢; omega
    · have := sp_small c l (cur ++ [x]) p h; simp at this ⊢; omega
/-- A dot-atom, byte by byte; behind a point, or at the front. -/
def dtL : List UInt8 → Bool → Bool
  | [], p => !p
  | x :: l, p => if x = 46 then (if p then false else dtL l true) else (if letC x then dtL l false else false)
def atL (l : List UInt8) : Bool := !l.isEmpty && l.all letC
theorem sp_bad : ∀ (l cur : List UInt8), cur.all letC = false → (spL 46 l cur).all atL = false
  | [], cur, h => by simp [spL, atL]; intro _; simpa using h
  | x :: l, cur, h => by
    rw [spL]; split
    · rw [List.all_cons]; simp only [atL, h, Bool.and_false, Bool.false_and]
    · exact sp_bad l _ (by rw [List.all_append, h]; rfl)
theorem sp_dot : ∀ (l cur : List UInt8), cur.all letC = true → (spL 46 l cur).all atL = dtL l cur.isEmpty
  | [], cur, h => by simp [spL, atL, dtL, h]
  | x :: l, cur, h => by
    rw [spL, dtL]
    by_cases e : x = 46
    · rw [if_pos e, if_pos e, List.all_cons, sp_dot l [] rfl]
      cases hc : cur.isEmpty
      · simp [atL, h, hc]
      · simp [atL, hc]
    · rw [if_neg e, if_neg e]
      by_cases hx : letC x = true
      · rw [if_pos hx, sp_dot l (cur ++ [x]) (by rw [List.all_append, h]; simp [hx])]
        congr 1; cases cur <;> rfl
      · rw [if_neg hx]; exact sp_bad l _ (by rw [List.all_append]; simp [hx])
theorem dropW_app {p : UInt8 → Bool} : ∀ (u v : List UInt8), u.all p = false → (u ++ v).dropWhile p = u.dropWhile p ++ v
  | [], v, h => by simp at h
  | x :: u, v, h => by
    rw [List.cons_append, List.dropWhile_cons, List.dropWhile_cons]
    by_cases hx : p x
    · rw [if_pos hx, if_pos hx]; exact dropW_app u v (by simpa [hx] using h)
    · rw [if_neg hx, if_neg hx]; rfl
theorem dropW_all {p : UInt8 → Bool} : ∀ (u v : List UInt8), u.all p = true → (u ++ v).dropWhile p = v.dropWhile p
  | [], v, _ => by simp
  | x :: u, v, h => by
    simp only [List.all_cons, Bool.and_eq_true] at h
    rw [List.cons_append, List.dropWhile_cons, if_pos h.1]; exact dropW_all u v h.2
theorem take_all (p : UInt8 → Bool) : ∀ l : List UInt8, (l.takeWhile p).all p = true
  | [] => rfl
  | x :: l => by
    rw [List.takeWhile_cons]
    by_cases h : p x
    · rw [if_pos h, List.all_cons, h, take_all p l]; rfl
    · rw [if_neg h]; rfl
/-- Both ends: either first. -/
theorem trim_both (p : UInt8 → Bool) (l : List UInt8) : (l.reverse.dropWhile p).reverse.dropWhile p = ((l.dropWhile p).reverse.dropWhile p).reverse := by
  by_cases ha : l.all p = true
  · rw [(trim_nil p l).2 ha]
    have : l.dropWhile p = [] := dropW_nil.2 (fun x hx => List.all_eq_true.1 ha x hx)
    rw [this]; rfl
  · obtain ⟨a, r, rfl, h1, h2⟩ : ∃ a r, l = a ++ r ∧ a.all p = true ∧ l.dropWhile p = r := by
      refine ⟨l.takeWhile p, l.dropWhile p, (List.takeWhile_append_dropWhile).symm, ?_, rfl⟩
      exact take_all p l
    have hr : r.all p = false := by
      rw [List.all_append, h1, Bool.true_and] at ha; simpa using ha
    have hrr : r.reverse.all p = false := by rw [List.all_reverse]; exact hr
    rw [h2, List.reverse_append, dropW_app _ _ hrr, List.reverse_append, List.reverse_reverse, dropW_all _ _ h1]
    cases hx : r with
    | nil => rw [hx] at hr; simp at hr
    | cons x m =>
      have hpx : p x = false := by
        have := List.head?_dropWhile_not p (a ++ r)
        rw [h2, hx] at this; simpa using this
      have hne : (x :: m).reverse.dropWhile p = m.reverse.dropWhile p ++ [x] ∨ (x :: m).reverse.dropWhile p = [x] := by
        rw [List.reverse_cons]
        by_cases hm : m.reverse.all p = true
        · right; rw [dropW_all _ _ hm, List.dropWhile_cons, if_neg (by simp [hpx])]
        · left; exact dropW_app _ _ (by simpa using hm)
      rcases hne with e | e
      · rw [e, List.reverse_append]; simp [List.dropWhile_cons, hpx]
      · rw [e]; simp [List.dropWhile_cons, hpx]
def blC (c : UInt8) : Bool := c == 32 || c == 9
def trimL (l : List UInt8) : List UInt8 := ((l.dropWhile blC).reverse.dropWhile blC).reverse
/-! ### the program's -/
theorem split_l0 {c : UInt8} : ∀ (N : Nat) (x : ByteArray) (out : List ByteArray), x.size ≤ N → x.size + out.length ≤ 4398046511104 →
    Ev (fun k => text_Split.l0 k x (c.toNat : Int) out) (out ++ (spL c (L x) []).map B) := by
  intro N
  induction N with
  | zero =>
    intro x out h hb
    have hl : L x = [] := List.eq_nil_of_length_eq_zero (by rw [L_len]; omega)
    refine Ev.eq (f := fun _ => some _) (fun k => ?_) (Ev.pure _)
    simp only [text_Split.l0, strings_IndexByte.f, Option.bind_some]
    rw [show Lib.indexByte x.data.toList _ = -1 from by rw [show x.data.toList = [] from hl]; rfl, if_pos (by omega), if_pos (by omega)]
    rw [hl, ← B_L x, hl]; rfl
  | succ N ih =>
    intro x out h hb
    have hc : ((c.toNat : Int).toNat).toUInt8 = c := by simp
    by_cases h0 : Lib.indexByte (L x) c < 0
    · refine Ev.eq (f := fun _ => some _) (fun k => ?_) (Ev.pure _)
      simp only [text_Split.l0, strings_IndexByte.f, Option.bind_some, hc]
      rw [show Lib.indexByte x.data.toList c = Lib.indexByte (L x) c from rfl, if_pos h0, if_pos (by omega), sp_none _ _ (ix_none h0)]
      simp [B_L]
    · obtain ⟨k, hk⟩ := Int.eq_ofNat_of_zero_le (show 0 ≤ Lib.indexByte (L x) c by omega)
      obtain ⟨h1, h2, h3⟩ := ix_some hk
      rw [L_len] at h1
      have ew := w1 h1 (by omega)
      have hx2 : (x.extract (k + 1) x.size).size = x.size - (k + 1) := by rw [ByteArray.size_extract]; omega
      refine Ev.eq (f := fun q => text_Split.l0 q (x.extract (k + 1) x.size) (c.toNat : Int) (out ++ [x.extract 0 k])) (fun q => ?_) ?_
      · simp only [text_Split.l0, strings_IndexByte.f, Option.bind_some, hc]
        rw [show Lib.indexByte x.data.toList c = (k : Int) from hk, if_neg (by omega), if_pos (by omega), if_pos (by omega), if_pos (by omega), ew, if_pos (by omega), if_pos (by omega)]
        rfl
      · have := ih (x.extract (k + 1) x.size) (out ++ [x.extract 0 k]) (by omega) (by rw [List.length_append]; simp only [List.length_singleton]; omega)
        have e1 : L x = (L x).take k ++ c :: (L x).drop (k + 1) := by rw [← h3, List.take_append_drop]
        rw [e1, sp_some _ _ _ h2]
        rw [L_ext_end] at this
        have e2 : x.extract 0 k = B ((L x).take k) := by rw [ext_B, List.drop_zero, Nat.sub_zero]
        rw [e2] at this ⊢
        simpa using this
theorem split_f {c : UInt8} {x : ByteArray} (hx : x.size ≤ 70368744177) : Ev (fun k => text_Split.f k x (c.toNat : Int)) ((spL c (L x) []).map B) := by
  have := split_l0 (c := c) x.size x [] (Nat.le_refl _) (by simp; omega)
  rw [List.nil_append] at this
  exact this
theorem atomB_eq (s : ByteArray) : atomB s = atL (L s) := rfl
theorem dot_f {x : ByteArray} (hx : x.size ≤ 70368744177) : Ev (fun k => text_DotAtom.f k x) (dtL (L x) true) := by
  unfold text_DotAtom.f
  refine Ev.bind2 (split_f (c := 46) hx) ?_
  have hs : dotSmall ((spL 46 (L x) []).map B) = true := by
    unfold dotSmall; rw [List.all_map, List.all_eq_true]
    intro p hp
    have := sp_small 46 (L x) [] p hp
    rw [L_len] at this
    simp only [List.length_nil, Nat.zero_add] at this
    simp only [Function.comp, B_size, decide_eq_true_eq]; omega
  have hd : dotAll ((spL 46 (L x) []).map B) = dtL (L x) true := by
    have e := sp_dot (L x) [] rfl
    unfold dotAll
    rw [List.all_map, ← show ([] : List UInt8).isEmpty = true from rfl, ← e]
    congr 1
  simp only [hs, if_true, hd]
  exact Ev.pure _
theorem lower_f {x : ByteArray} (hx : x.size ≤ 70368744177) : text_Lower.f x = some (B ((L x).map lowC)) := by
  unfold text_Lower.f; rw [if_pos (by omega)]; rfl
theorem number_f {x : ByteArray} (hx : x.size ≤ 70368744177) (d : Int) : text_Number.f x d = some (if numOK x d then (numL (L x), 0) else (0, 5)) := by
  unfold text_Number.f; rw [if_pos (by omega)]; split <;> rfl
theorem bl_has (c : UInt8) : [32, 9].contains c = blC c := by
  have : ∀ n, n < 256 → [32, 9].contains (UInt8.ofNat n) = blC (UInt8.ofNat n) := by decide +kernel
  have h := this c.toNat (UInt8.toNat_lt c)
  rwa [UInt8.ofNat_toNat] at h
theorem trim_f {x : ByteArray} (hx : x.size ≤ 70368744177) : text_Trim.f x = some (B (trimL (L x))) := by
  unfold text_Trim.f strings_Trim.f
  rw [if_pos ⟨by omega, by decide, by decide⟩]
  simp only [Option.bind_some]
  have : Lib.trimS x.data.toList (⟨#[32, 9]⟩ : ByteArray).data.toList = trimL (L x) := by
    unfold Lib.trimS Lib.trimLeftS Lib.trimRightS
    simp only [show (⟨#[32, 9]⟩ : ByteArray).data.toList = [32, 9] from rfl, bl_has]
    exact trim_both blC (L x)
  rw [this]; rfl
end Go.Proofs.YtfeihligcondgaaDoor.S
