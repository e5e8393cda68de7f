/- What the text layer's functions come to. -/
import Derived.Test.YtgelfnjicglmbaaGreatDoorTX
import Derived.Test.YtgelfnjicglmbaaGreatDoorQx0
import Derived.Test.YtgelfnjicglmbaaGreatDoorQx7
namespace Go.Proofs.YtgelfnjicglmbaaGreatDoor.S
open Go.RowKit Go.Proofs.YtgelfnjicglmbaaGreatDoor.Q Go.Proofs.YtgelfnjicglmbaaGreatDoorW.PrintWords Go.Proofs.YtgelfnjicglmbaaGreatDoorW.PrintLast Go.Proofs.YtgelfnjicglmbaaGreatDoorW.PrintMore
set_option linter.unusedVariables false
set_option linter.unusedSimpArgs false
theorem lower_f {x : ByteArray} (hx : x.size ≤ 70368744177) : text_Lower.f x = some (B ((L x).map lowC)) := by
 unfold text_Lower.f; rw [if_pos (by omega)]; rfl
theorem same_f {x y : ByteArray} (hx : x.size ≤ 70368744177) (hy : y.size ≤ 70368744177) : text_Same.f x y = some ((B ((L x).map lowC)).toList == (B ((L y).map lowC)).toList) := by
 unfold text_Same.f
 rw [lower_f hx, lower_f hy]; rfl
theorem split_l0 {c : UInt8} : ∀ (N : Nat) (x : ByteArray) (out : List ByteArray), x.size ≤ N → x.size + out.length ≤ 4398046511104 →
  Ev (fun k => text_Split.l0 k x (c.toNat : Int) out) (out ++ (spL c (L x) []).map B) := by
 intro N
 induction N with
 | zero =>
  intro x out h hb
  have hl : L x = [] := List.eq_nil_of_length_eq_zero (by rw [L_len]; omega)
  refine Ev.eq (f := fun _ => some _) (fun k => ?_) (Ev.pure _)
  simp only [text_Split.l0, strings_IndexByte.f, Option.bind_some]
  rw [show Lib.indexByte x.data.toList _ = -1 from by rw [show x.data.toList = [] from hl]; rfl, if_pos (by omega), if_pos (by omega)]
  rw [hl, ← B_L x, hl]; rfl
 | succ N ih =>
  intro x out h hb
  have hc : ((c.toNat : Int).toNat).toUInt8 = c := by simp
  by_cases h0 : Lib.indexByte (L x) c < 0
  ·refine Ev.eq (f := fun _ => some _) (fun k => ?_) (Ev.pure _)
   simp only [text_Split.l0, strings_IndexByte.f, Option.bind_some, hc]
   rw [show Lib.indexByte x.data.toList c = Lib.indexByte (L x) c from rfl, if_pos h0, if_pos (by omega), sp_none _ _ (ix_none h0)]
   simp [B_L]
  ·obtain ⟨k, hk⟩ := Int.eq_ofNat_of_zero_le (show 0 ≤ Lib.indexByte (L x) c by omega)
   obtain ⟨h1, h2, h3⟩ := ix_some hk
   rw [L_len] at h1
   have ew := w1 h1 (by omega)
   have hx2 : (x.extract (k + 1) x.size).size = x.size - (k + 1) := by rw [ByteArray.size_extract]; omega
   refine Ev.eq (f := fun q => text_Split.l0 q (x.extract (k + 1) x.size) (c.toNat : Int) (out ++ [x.extract 0 k])) (fun q => ?_) ?_
   ·simp only [text_Split.l0, strings_IndexByte.f, Option.bind_some, hc]
    rw [show Lib.indexByte x.data.toList c = (k : Int) from hk, if_neg (by omega), if_pos (by omega), if_pos (by omega), if_pos (by omega), ew, if_pos (by omega), if_pos (by omega)]
    rfl
   ·have := ih (x.extract (k + 1) x.size) (out ++ [x.extract 0 k]) (by omega) (by rw [List.length_append]; simp only [List.length_singleton]; omega)
    have e1 : L x = (L x).take k ++ c :: (L x).drop (k + 1) := by rw [← h3, List.take_append_drop]
    rw [e1, sp_some _ _ _ h2]
    rw [L_ext_end] at this
    have e2 : x.extract 0 k = B ((L x).take k) := by rw [ext_B, List.drop_zero, Nat.sub_zero]
    rw [e2] at this ⊢
    simpa using this
theorem split_f {c : UInt8} {x : ByteArray} (hx : x.size ≤ 70368744177) : Ev (fun k => text_Split.f k x (c.toNat : Int)) ((spL c (L x) []).map B) := by
 have := split_l0 (c := c) x.size x [] (Nat.le_refl _) (by simp; omega)
 rw [List.nil_append] at this
 exact this
def dtL : List UInt8 → Bool → Bool
 | [], p => !p
 | x :: l, p => if x = 46 then (if p then false else dtL l true) else (if letC x then dtL l false else false)
def atL (l : List UInt8) : Bool := !l.isEmpty && l.all letC
theorem sp_bad : ∀ (l cur : List UInt8), cur.all letC = false → (spL 46 l cur).all atL = false
 | [], cur, h => by simp [spL, atL]; intro _; simpa using h
 | x :: l, cur, h => by
  rw [spL]; split
  ·rw [List.all_cons]; simp only [atL, h, Bool.and_false, Bool.false_and]
  ·exact sp_bad l _ (by rw [List.all_append, h]; rfl)
theorem sp_dot : ∀ (l cur : List UInt8), cur.all letC = true → (spL 46 l cur).all atL = dtL l cur.isEmpty
 | [], cur, h => by simp [spL, atL, dtL, h]
 | x :: l, cur, h => by
  rw [spL, dtL]
  by_cases e : x = 46
  ·rw [if_pos e, if_pos e, List.all_cons, sp_dot l [] rfl]
   cases hc : cur.isEmpty
   ·simp [atL, h, hc]
   ·simp [atL, hc]
  ·rw [if_neg e, if_neg e]
   by_cases hx : letC x = true
   ·rw [if_pos hx, sp_dot l (cur ++ [x]) (by rw [List.all_append, h]; simp [hx])]
    congr 1; cases cur <;> rfl
   ·rw [if_neg hx]; exact sp_bad l _ (by rw [List.all_append]; simp [hx])
theorem dot_f {x : ByteArray} (hx : x.size ≤ 70368744177) : Ev (fun k => text_DotAtom.f k x) (dtL (L x) true) := by
 unfold text_DotAtom.f
 refine Ev.bind2 (split_f (c := 46) hx) ?_
 have hs : dotSmall ((spL 46 (L x) []).map B) = true := by
  unfold dotSmall; rw [List.all_map, List.all_eq_true]
  intro p hp
  have := sp_small 46 (L x) [] p hp
  rw [L_len] at this
  simp only [List.length_nil, Nat.zero_add] at this
  simp only [Function.comp, B_size, decide_eq_true_eq]; omega
 have hd : dotAll ((spL 46 (L x) []).map B) = dtL (L x) true := by
  have e := sp_dot (L x) [] rfl
  unfold dotAll
  rw [List.all_map, ← show ([] : List UInt8).isEmpty = true from rfl, ← e]
  congr 1
 simp only [hs, if_true, hd]
 exact Ev.pure _
theorem number_f {x : ByteArray} (hx : x.size ≤ 70368744177) (d : Int) : text_Number.f x d = some (if numOK x d then (numL (L x), 0) else (0, 5)) := by
 unfold text_Number.f; rw [if_pos (by omega)]; split <;> rfl
theorem plainB_eq (s : ByteArray) : plainB s = (L s).all plC := rfl
theorem quoteB_eq (s : ByteArray) : quoteB s = B (34 :: (qtM (L s) ++ [34])) := rfl
theorem quote_f {s : ByteArray} (hs : s.size ≤ 70368744177000 - 1) : text_Quote.f s = some (if (L s).all plC then (B (34 :: (qtM (L s) ++ [34])), 0) else (B [], 5)) := by
 unfold text_Quote.f
 rw [if_pos (by omega), plainB_eq, quoteB_eq]
 by_cases h : (L s).all plC
 ·rw [if_pos h, if_pos h]
 ·rw [if_neg h, if_neg h]; rfl
theorem plain_f (c : UInt8) : text_plain.f (c.toNat : Int) = some (plC c) := by
 unfold text_plain.f plC
 by_cases h : 32 ≤ c.toNat
 ·rw [if_pos (by omega)]; simp [h]; omega
 ·rw [if_neg (by omega)]; simp [h]
set_option linter.unusedVariables false
set_option linter.unusedSimpArgs false
def nm (l : List UInt8) : List Int := l.map fun c => (c.toNat : Int)
theorem nm_len (l : List UInt8) : (nm l).length = l.length := by simp [nm]
theorem nm_snoc (l : List UInt8) (c : UInt8) : nm l ++ [(c.toNat : Int)] = nm (l ++ [c]) := by simp [nm]
theorem str_nm (l : List UInt8) : strOfNums (nm l) = B l := by simp [strOfNums, nm, B, Function.comp_def]
def res3 (x : List UInt8 × Nat × Nat) : ByteArray × Int × Int := (B x.1, (x.2.1 : Int), (x.2.2 : Int))
def res2 (x : Nat × Nat) : Int × Int := ((x.1 : Int), (x.2 : Int))
def pairL : List UInt8 → Option (Int × Int)
 | [] => some (0, 4)
 | d :: _ => if plC d then some ((d.toNat : Int), 0) else some (0, 5)
theorem pair_f {s : ByteArray} (hs : s.size ≤ 70368744177664) {n : Nat} {c : UInt8} {l : List UInt8} (h : (L s).drop n = c :: l) :
  text_pair.f s (n : Int) = pairL l := by
 have hlt := drop_lt h
 have hsz := drop_size h (by omega)
 have h2 := drop_next h
 unfold text_pair.f
 rw [w1 hlt (by omega)]
 cases l with
 | nil => simp only [List.length_cons, List.length_nil] at hsz; rw [if_pos (by omega)]; rfl
 | cons d l =>
  simp only [List.length_cons] at hsz
  rw [if_neg (by omega), if_pos (by omega), if_pos (by omega), bt_of h2, plain_f]
  simp only [Option.bind_some, pairL]
theorem quoted_l0 {s : ByteArray} (hs : s.size ≤ 70368744177664) : ∀ (N : Nat) (l out : List UInt8) (n : Nat), l.length ≤ N → (L s).drop n = l → n ≤ s.size → out.length ≤ n →
  Ev (fun k => text_Quoted.l0 k s (nm out) (n : Int)) (res3 (qdL l out n)) := by
 intro N
 induction N with
 | zero =>
  intro l out n h hd hn ho
  obtain rfl : l = [] := List.eq_nil_of_length_eq_zero (by omega)
  have := drop_end hd
  exact Ev.eq (f := fun _ => some _) (fun k => by simp only [text_Quoted.l0]; rw [if_neg (by omega)]; rfl) (Ev.pure _)
 | succ N ih =>
  intro l out n h hd hn ho
  cases l with
  | nil =>
   have := drop_end hd
   exact Ev.eq (f := fun _ => some _) (fun k => by simp only [text_Quoted.l0]; rw [if_neg (by omega)]; rfl) (Ev.pure _)
  | cons c l =>
   have hlt := drop_lt hd
   have hb := bt_of hd
   have h2 := drop_next hd
   have hsz := drop_size hd hn
   simp only [List.length_cons] at h hsz
   have ew := w1 hlt (by omega)
   by_cases c1 : c = 34
   ·refine Ev.eq (f := fun _ => some _) (fun k => ?_) (Ev.pure _)
    simp only [text_Quoted.l0]
    rw [if_pos (by omega), if_pos (by omega), hb, if_pos (by rw [c1]; rfl), ew, str_nm, c1, qd_end]
    rfl
   ·have c1' : ¬ (c.toNat : Int) = 34 := fun e => c1 ((c_eq c 34).1 e)
    by_cases c2 : c = 92
    ·have c2' : (c.toNat : Int) = 92 := by rw [c2]; rfl
     cases l with
     | nil =>
      refine Ev.eq (f := fun _ => some _) (fun k => ?_) (Ev.pure _)
      simp only [text_Quoted.l0]
      rw [if_pos (by omega), if_pos (by omega), hb, if_neg c1', if_pos c2', pair_f hs hd]
      rw [c2, qd_back]
      rfl
     | cons d l =>
      simp only [List.length_cons] at h hsz
      by_cases c3 : plC d
      ·refine Ev.eq (f := fun k => text_Quoted.l0 k s (nm (out ++ [d])) ((n + 2 : Nat) : Int)) (fun k => ?_) ?_
       ·simp only [text_Quoted.l0]
        rw [if_pos (by omega), if_pos (by omega), hb, if_neg c1', if_pos c2', pair_f hs hd]
        simp only [pairL, c3, if_true, Option.bind_some]
        rw [if_pos (by rw [nm_len]; omega), nm_snoc, ew, w1 (m := s.size) (by omega) (by omega)]
       ·have := ih l (out ++ [d]) (n + 2) (by omega) (drop_next h2) (by omega) (by simp; omega)
        rw [c2, qd_pair, if_pos c3]; exact this
      ·refine Ev.eq (f := fun _ => some _) (fun k => ?_) (Ev.pure _)
       simp only [text_Quoted.l0]
       rw [if_pos (by omega), if_pos (by omega), hb, if_neg c1', if_pos c2', pair_f hs hd]
       rw [c2, qd_pair, if_neg c3]; simp only [pairL, c3]; rfl
    ·have c2' : ¬ (c.toNat : Int) = 92 := fun e => c2 ((c_eq c 92).1 e)
     by_cases c3 : plC c
     ·refine Ev.eq (f := fun k => text_Quoted.l0 k s (nm (out ++ [c])) ((n + 1 : Nat) : Int)) (fun k => ?_) ?_
      ·simp only [text_Quoted.l0]
       rw [if_pos (by omega), if_pos (by omega), hb, if_neg c1', if_neg c2', plain_f]
       simp only [c3, if_true, Option.bind_some]
       rw [if_pos (by rw [nm_len]; omega), nm_snoc, ew]
      ·have := ih l (out ++ [c]) (n + 1) (by omega) h2 (by omega) (by simp; omega)
       rw [qd_else c1 c2, if_pos c3]; exact this
     ·refine Ev.eq (f := fun _ => some _) (fun k => ?_) (Ev.pure _)
      simp only [text_Quoted.l0]
      rw [if_pos (by omega), if_pos (by omega), hb, if_neg c1', if_neg c2', plain_f]
      rw [qd_else c1 c2, if_neg c3]; simp only [c3, Option.bind_some]; rfl
theorem quoted_f {s : ByteArray} (hs : s.size ≤ 70368744177664) : Ev (fun k => text_Quoted.f k s) (res3 (qd (L s))) := by
 cases hl : L s with
 | nil =>
  have h0 : s.toList = ([] : List UInt8) := by rw [toL, hl]
  refine Ev.eq (f := fun _ => some _) (fun k => ?_) (Ev.pure _)
  unfold text_Quoted.f
  rw [if_pos h0]; simp only [text_Quoted.j0, if_true]; rfl
 | cons c l =>
  have h0 : ¬ s.toList = ([] : List UInt8) := by rw [toL, hl]; simp
  have hd : (L s).drop 0 = c :: l := hl
  have hb := bt_of hd
  have hlt := drop_lt hd
  have hsz := drop_size hd (by omega)
  simp only [List.length_cons] at hsz
  by_cases c1 : c = 34
  ·refine Ev.eq (f := fun k => text_Quoted.l0 k s (nm []) ((1 : Nat) : Int)) (fun k => ?_) ?_
   ·unfold text_Quoted.f
    rw [if_neg h0, if_pos (by omega), show (0 : Int) = ((0 : Nat) : Int) from rfl, hb, c1]
    simp only [text_Quoted.j0]; rfl
   ·have := quoted_l0 hs l.length l [] 1 (Nat.le_refl _) (drop_next hd) (by omega) (by simp)
    simpa [qd, c1] using this
  ·refine Ev.eq (f := fun _ => some _) (fun k => ?_) (Ev.pure _)
   unfold text_Quoted.f
   have c1' : ((c.toNat : Int) != 34) = true := bne_iff_ne.mpr (fun e => c1 ((c_eq c 34).1 e))
   rw [if_neg h0, if_pos (by omega), show (0 : Int) = ((0 : Nat) : Int) from rfl, hb, c1']
   simp [text_Quoted.j0, qd, c1, res3, B]
end Go.Proofs.YtgelfnjicglmbaaGreatDoor.S

