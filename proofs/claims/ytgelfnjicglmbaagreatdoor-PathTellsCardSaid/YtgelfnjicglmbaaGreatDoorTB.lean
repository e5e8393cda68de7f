/- What the text layer's functions come to. -/
import Derived.Test.YtgelfnjicglmbaaGreatDoorTX
import Derived.Test.YtgelfnjicglmbaaGreatDoorQx7
import Derived.Test.YtgelfnjicglmbaaGreatDoorQx0
namespace Go.Proofs.YtgelfnjicglmbaaGreatDoor.S
open Go.RowKit Go.Proofs.YtgelfnjicglmbaaGreatDoor.Q Go.Proofs.YtgelfnjicglmbaaGreatDoorW.PrintWords Go.Proofs.YtgelfnjicglmbaaGreatDoorW.PrintLast Go.Proofs.YtgelfnjicglmbaaGreatDoorW.PrintMore
set_option linter.unusedVariables false
set_option linter.unusedSimpArgs false
theorem split_l0 {c : UInt8} : ∀ (N : Nat) (x : ByteArray) (out : List ByteArray), x.size ≤ N → x.size + out.length ≤ 4398046511104 →
  Ev (fun k => text_Split.l0 k x (c.toNat : Int) out) (out ++ (spL c (L x) []).map B) := by
 intro N
 induction N with
 | zero =>
  intro x out h hb
  have hl : L x = [] := List.eq_nil_of_length_eq_zero (by rw [L_len]; omega)
  refine Ev.eq (f := fun _ => some _) (fun k => ?_) (Ev.pure _)
  simp only [text_Split.l0, strings_IndexByte.f, Option.bind_some]
  rw [show Lib.indexByte x.data.toList _ = -1 from by rw [show x.data.toList = [] from hl]; rfl, if_pos (by omega), if_pos (by omega)]
  rw [hl, ← B_L x, hl]; rfl
 | succ N ih =>
  intro x out h hb
  have hc : ((c.toNat : Int).toNat).toUInt8 = c := by simp
  by_cases h0 : Lib.indexByte (L x) c < 0
  ·refine Ev.eq (f := fun _ => some _) (fun k => ?_) (Ev.pure _)
   simp only [text_Split.l0, strings_IndexByte.f, Option.bind_some, hc]
   rw [show Lib.indexByte x.data.toList c = Lib.indexByte (L x) c from rfl, if_pos h0, if_pos (by omega), sp_none _ _ (ix_none h0)]
   simp [B_L]
  ·obtain ⟨k, hk⟩ := Int.eq_ofNat_of_zero_le (show 0 ≤ Lib.indexByte (L x) c by omega)
   obtain ⟨h1, h2, h3⟩ := ix_some hk
   rw [L_len] at h1
   have ew := w1 h1 (by omega)
   have hx2 : (x.extract (k + 1) x.size).size = x.size - (k + 1) := by rw [ByteArray.size_extract]; omega
   refine Ev.eq (f := fun q => text_Split.l0 q (x.extract (k + 1) x.size) (c.toNat : Int) (out ++ [x.extract 0 k])) (fun q => ?_) ?_
   ·simp only [text_Split.l0, strings_IndexByte.f, Option.bind_some, hc]
    rw [show Lib.indexByte x.data.toList c = (k : Int) from hk, if_neg (by omega), if_pos (by omega), if_pos (by omega), if_pos (by omega), ew, if_pos (by omega), if_pos (by omega)]
    rfl
   ·have := ih (x.extract (k + 1) x.size) (out ++ [x.extract 0 k]) (by omega) (by rw [List.length_append]; simp only [List.length_singleton]; omega)
    have e1 : L x = (L x).take k ++ c :: (L x).drop (k + 1) := by rw [← h3, List.take_append_drop]
    rw [e1, sp_some _ _ _ h2]
    rw [L_ext_end] at this
    have e2 : x.extract 0 k = B ((L x).take k) := by rw [ext_B, List.drop_zero, Nat.sub_zero]
    rw [e2] at this ⊢
    simpa using this
theorem split_f {c : UInt8} {x : ByteArray} (hx : x.size ≤ 70368744177) : Ev (fun k => text_Split.f k x (c.toNat : Int)) ((spL c (L x) []).map B) := by
 have := split_l0 (c := c) x.size x [] (Nat.le_refl _) (by simp; omega)
 rw [List.nil_append] at this
 exact this
def dtL : List UInt8 → Bool → Bool
 | [], p => !p
 | x :: l, p => if x = 46 then (if p then false else dtL l true) else (if letC x then dtL l false else false)
def atL (l : List UInt8) : Bool := !l.isEmpty && l.all letC
theorem sp_bad : ∀ (l cur : List UInt8), cur.all letC = false → (spL 46 l cur).all atL = false
 | [], cur, h => by simp [spL, atL]; intro _; simpa using h
 | x :: l, cur, h => by
  rw [spL]; split
  ·rw [List.all_cons]; simp only [atL, h, Bool.and_false, Bool.false_and]
  ·exact sp_bad l _ (by rw [List.all_append, h]; rfl)
theorem sp_dot : ∀ (l cur : List UInt8), cur.all letC = true → (spL 46 l cur).all atL = dtL l cur.isEmpty
 | [], cur, h => by simp [spL, atL, dtL, h]
 | x :: l, cur, h => by
  rw [spL, dtL]
  by_cases e : x = 46
  ·rw [if_pos e, if_pos e, List.all_cons, sp_dot l [] rfl]
   cases hc : cur.isEmpty
   ·simp [atL, h, hc]
   ·simp [atL, hc]
  ·rw [if_neg e, if_neg e]
   by_cases hx : letC x = true
   ·rw [if_pos hx, sp_dot l (cur ++ [x]) (by rw [List.all_append, h]; simp [hx])]
    congr 1; cases cur <;> rfl
   ·rw [if_neg hx]; exact sp_bad l _ (by rw [List.all_append]; simp [hx])
theorem dot_f {x : ByteArray} (hx : x.size ≤ 70368744177) : Ev (fun k => text_DotAtom.f k x) (dtL (L x) true) := by
 unfold text_DotAtom.f
 refine Ev.bind2 (split_f (c := 46) hx) ?_
 have hs : dotSmall ((spL 46 (L x) []).map B) = true := by
  unfold dotSmall; rw [List.all_map, List.all_eq_true]
  intro p hp
  have := sp_small 46 (L x) [] p hp
  rw [L_len] at this
  simp only [List.length_nil, Nat.zero_add] at this
  simp only [Function.comp, B_size, decide_eq_true_eq]; omega
 have hd : dotAll ((spL 46 (L x) []).map B) = dtL (L x) true := by
  have e := sp_dot (L x) [] rfl
  unfold dotAll
  rw [List.all_map, ← show ([] : List UInt8).isEmpty = true from rfl, ← e]
  congr 1
 simp only [hs, if_true, hd]
 exact Ev.pure _
theorem number_f {x : ByteArray} (hx : x.size ≤ 70368744177) (d : Int) : text_Number.f x d = some (if numOK x d then (numL (L x), 0) else (0, 5)) := by
 unfold text_Number.f; rw [if_pos (by omega)]; split <;> rfl
theorem plainB_eq (s : ByteArray) : plainB s = (L s).all plC := rfl
theorem quoteB_eq (s : ByteArray) : quoteB s = B (34 :: (qtM (L s) ++ [34])) := rfl
theorem quote_f {s : ByteArray} (hs : s.size ≤ 70368744177000 - 1) : text_Quote.f s = some (if (L s).all plC then (B (34 :: (qtM (L s) ++ [34])), 0) else (B [], 5)) := by
 unfold text_Quote.f
 rw [if_pos (by omega), plainB_eq, quoteB_eq]
 by_cases h : (L s).all plC
 ·rw [if_pos h, if_pos h]
 ·rw [if_neg h, if_neg h]; rfl
theorem letter_l0 : ∀ (c : Nat) (d j : Nat), d + j = 19 →
  Ev (fun k => postriderref04_Letter.l0 k (c : Int) (⟨#[33, 35, 36, 37, 38, 39, 42, 43, 45, 47, 61, 63, 94, 95, 96, 123, 124, 125, 126]⟩ : ByteArray) (j : Int)) ((letL.drop j).any fun x => x.toNat == c) := by
 intro c d
 induction d with
 | zero =>
  intro j h
  obtain rfl : j = 19 := by omega
  refine Ev.eq (f := fun _ => some _) (fun k => ?_) (Ev.pure _)
  simp only [postriderref04_Letter.l0]
  rw [if_neg (by decide)]; rfl
 | succ d ih =>
  intro j h
  have hll : letL.length = 19 := by decide
  have hj : j < letL.length := by omega
  have hj9 : j < 19 := by omega
  have hd : (L (⟨#[33, 35, 36, 37, 38, 39, 42, 43, 45, 47, 61, 63, 94, 95, 96, 123, 124, 125, 126]⟩ : ByteArray)).drop j = letL[j]'hj :: letL.drop (j + 1) := List.drop_eq_getElem_cons hj
  have hb := bt_of hd
  have hsz : ((⟨#[33, 35, 36, 37, 38, 39, 42, 43, 45, 47, 61, 63, 94, 95, 96, 123, 124, 125, 126]⟩ : ByteArray).size : Int) = 19 := by decide
  have ew := w1 (n := j) (m := 19) hj9 (by omega)
  rw [show letL.drop j = letL[j]'hj :: letL.drop (j + 1) from hd, List.any_cons]
  clear hd
  generalize letL[j]'hj = x at hb ⊢
  by_cases e : x.toNat = c
  ·refine Ev.eq (f := fun _ => some _) (fun k => ?_) (Ev.pure _)
   simp only [postriderref04_Letter.l0]
   rw [hsz, if_pos (by omega), if_pos (by omega), hb, if_pos (by omega)]
   simp [e]
  ·refine Ev.eq (f := fun k => postriderref04_Letter.l0 k (c : Int) (⟨#[33, 35, 36, 37, 38, 39, 42, 43, 45, 47, 61, 63, 94, 95, 96, 123, 124, 125, 126]⟩ : ByteArray) ((j + 1 : Nat) : Int)) (fun k => ?_) ?_
   ·simp only [postriderref04_Letter.l0]
    rw [hsz, if_pos (by omega), if_pos (by omega), hb, if_neg (by omega), ew]
   ·have := ih (j + 1) (by omega)
    rw [show (x.toNat == c) = false from beq_eq_false_iff_ne.mpr e, Bool.false_or]
    exact this
theorem letter_j0 (c : Nat) (b : Bool) : Ev (fun k => postriderref04_Letter.j0 k (c : Int) b) (b || letL.any fun x => x.toNat == c) := by
 cases b with
 | true => exact Ev.eq (f := fun _ => some _) (fun k => by simp only [postriderref04_Letter.j0, if_true]; rfl) (Ev.pure _)
 | false => exact Ev.eq (fun k => by simp only [postriderref04_Letter.j0]; rfl) (letter_l0 c 19 0 rfl)
theorem dec57 (n : Nat) : decide ((n : Int) ≤ 57) = decide (n ≤ 57) := decide_eq_decide.mpr (by omega)
theorem letter_f (c : UInt8) : Ev (fun k => postriderref04_Letter.f k (c.toNat : Int)) (letC c) := by
 have hc := UInt8.toNat_lt c
 unfold letC
 generalize c.toNat = n at hc ⊢
 have key : ∀ b, b = ((decide (97 ≤ n) && decide (n ≤ 122)) || (decide (65 ≤ n) && decide (n ≤ 90)) || (decide (48 ≤ n) && decide (n ≤ 57))) → (∀ k, postriderref04_Letter.f k (n : Int) = postriderref04_Letter.j0 k (n : Int) b) → Ev (fun k => postriderref04_Letter.f k (n : Int)) (letN n) := by
  intro b hb hf
  have := letter_j0 n b
  refine Ev.congr hf ?_
  unfold letN
  rw [← hb]; exact this
 by_cases h1 : 97 ≤ n
 ·by_cases h2 : n ≤ 122
  ·exact key true (by simp [h1, h2]) (fun k => by unfold postriderref04_Letter.f; rw [if_pos (by omega), if_pos (by omega)])
  ·exact key (decide ((n : Int) ≤ 57)) (by rw [dec57, Bool.eq_iff_iff]; simp; omega) (fun k => by unfold postriderref04_Letter.f; rw [if_pos (by omega), if_neg (by omega), if_pos (by omega), if_neg (by omega), if_pos (by omega)])
 ·by_cases h2 : 65 ≤ n
  ·by_cases h3 : n ≤ 90
   ·exact key true (by simp [h2, h3]) (fun k => by unfold postriderref04_Letter.f; rw [if_neg (by omega), if_pos (by omega), if_pos (by omega)])
   ·exact key (decide ((n : Int) ≤ 57)) (by rw [dec57, Bool.eq_iff_iff]; simp; omega) (fun k => by unfold postriderref04_Letter.f; rw [if_neg (by omega), if_pos (by omega), if_neg (by omega), if_pos (by omega)])
  ·by_cases h3 : 48 ≤ n
   ·exact key (decide ((n : Int) ≤ 57)) (by rw [dec57, Bool.eq_iff_iff]; simp; omega) (fun k => by unfold postriderref04_Letter.f; rw [if_neg (by omega), if_neg (by omega), if_pos (by omega)])
   ·exact key false (by rw [Bool.eq_iff_iff]; simp; omega) (fun k => by unfold postriderref04_Letter.f; rw [if_neg (by omega), if_neg (by omega), if_neg (by omega)])
theorem ref_dot_l0 {s : ByteArray} (hs : s.size ≤ 70368744177) : ∀ (l : List UInt8) (p : Bool) (n : Nat), (L s).drop n = l → n ≤ s.size → Ev (fun k => postriderref04_DotAtom.l0 k s p (n : Int)) (dtL l p) := by
 intro l
 induction l with
 | nil =>
  intro p n hd hn
  have := drop_end hd
  refine Ev.eq (f := fun _ => some _) (fun k => ?_) (Ev.pure _)
  simp only [postriderref04_DotAtom.l0]
  rw [if_neg (by omega)]; rfl
 | cons c l ih =>
  intro p n hd hn
  have hlt := drop_lt hd
  have hb := bt_of hd
  have ew := w1 hlt (by omega)
  rw [dtL]
  by_cases e : c = 46
  ·rw [if_pos e]
   cases p with
   | true =>
    refine Ev.eq (f := fun _ => some _) (fun k => ?_) (Ev.pure _)
    simp only [postriderref04_DotAtom.l0]
    rw [if_pos (by omega), if_pos (by omega), hb, if_pos (show (c.toNat : Int) = 46 by rw [e]; rfl)]; rfl
   | false =>
    refine Ev.eq (f := fun k => postriderref04_DotAtom.l0 k s true ((n + 1 : Nat) : Int)) (fun k => ?_) ?_
    ·simp only [postriderref04_DotAtom.l0]
     rw [if_pos (by omega), if_pos (by omega), hb, if_pos (show (c.toNat : Int) = 46 by rw [e]; rfl), ew]; rfl
    ·exact ih true (n + 1) (drop_next hd) (by omega)
  ·rw [if_neg e]
   refine Ev.eq (f := fun k => (postriderref04_Letter.f k (c.toNat : Int)).bind fun t => if t = true then postriderref04_DotAtom.l0 k s false ((n + 1 : Nat) : Int) else some false) (fun k => ?_) (Ev.bind2 (letter_f c) ?_)
   ·simp only [postriderref04_DotAtom.l0]
    rw [if_pos (by omega), if_pos (by omega), hb, if_neg (show ¬ (c.toNat : Int) = 46 from fun h => e ((c_eq c 46).1 h)), ew]
   ·by_cases h : letC c = true
    ·simp only [h, if_true]
     exact ih false (n + 1) (drop_next hd) (by omega)
    ·have h' : letC c = false := by simpa using h
     simp only [h']
     exact Ev.pure _
theorem ref_dot_f {s : ByteArray} (hs : s.size ≤ 70368744177) : Ev (fun k => postriderref04_DotAtom.f k s) (dtL (L s) true) := ref_dot_l0 hs (L s) true 0 rfl (by omega)
theorem ref_split_l0 {s : ByteArray} {c : UInt8} (hs : s.size ≤ 4398046511) : ∀ (l : List UInt8) (out : List ByteArray) (m n : Nat), (L s).drop n = l → n ≤ s.size → m ≤ n → out.length ≤ n →
  Ev (fun k => postriderref04_Split.l0 k s (c.toNat : Int) out (m : Int) (n : Int)) (out ++ (spL c l (((L s).drop m).take (n - m))).map B) := by
 intro l
 induction l with
 | nil =>
  intro out m n hd hn hm ho
  have h1 := drop_end hd
  obtain rfl : n = s.size := by omega
  refine Ev.eq (f := fun _ => some _) (fun k => ?_) (Ev.pure _)
  simp only [postriderref04_Split.l0]
  rw [if_neg (by omega), if_pos (by omega), if_pos (by omega), if_pos (by omega), Int.toNat_natCast, ext_B]
  rfl
 | cons b l ih =>
  intro out m n hd hn hm ho
  have hlt := drop_lt hd
  have hb := bt_of hd
  have ew := w1 hlt (by omega)
  by_cases e : b = c
  ·refine Ev.eq (f := fun k => postriderref04_Split.l0 k s (c.toNat : Int) (out ++ [s.extract m n]) ((n + 1 : Nat) : Int) ((n + 1 : Nat) : Int)) (fun k => ?_) ?_
   ·simp only [postriderref04_Split.l0]
    rw [if_pos (by omega), if_pos (by omega), hb, if_pos (by rw [e]), if_pos (by omega), if_pos (by omega), if_pos (by omega), if_pos (by omega), ew]
    simp only [Int.toNat_natCast]
   ·have := ih (out ++ [s.extract m n]) (n + 1) (n + 1) (drop_next hd) (by omega) (Nat.le_refl _) (by rw [List.length_append]; simp; omega)
    rw [spL, if_pos e]
    rw [Nat.sub_self, List.take_zero, ext_B] at this
    rw [ext_B]
    simpa using this
  ·refine Ev.eq (f := fun k => postriderref04_Split.l0 k s (c.toNat : Int) out (m : Int) ((n + 1 : Nat) : Int)) (fun k => ?_) ?_
   ·simp only [postriderref04_Split.l0]
    rw [if_pos (by omega), if_pos (by omega), hb, if_neg (fun h => e ((c_eq b c).1 h)), ew]
   ·have := ih out m (n + 1) (drop_next hd) (by omega) (by omega) (by omega)
    rw [spL, if_neg e]
    have et : ((L s).drop m).take (n - m) ++ [b] = ((L s).drop m).take (n + 1 - m) := by
     rw [show n + 1 - m = (n - m) + 1 by omega, List.take_succ_eq_append_getElem (by rw [List.length_drop, L_len]; omega)]
     congr 1
     have h3 : (L s)[m + (n - m)]'(by rw [L_len]; omega) = b := by
      have h4 := List.drop_eq_getElem_cons (l := L s) (i := n) (by rw [L_len]; omega)
      rw [hd] at h4
      injection h4 with h5 _
      rw [h5]; congr 1; omega
     rw [List.getElem_drop, h3]
    rw [et]; exact this
theorem ref_split_f {s : ByteArray} {c : UInt8} (hs : s.size ≤ 4398046511) : Ev (fun k => postriderref04_Split.f k s (c.toNat : Int)) ((spL c (L s) []).map B) := by
 have := ref_split_l0 (c := c) hs (L s) [] 0 0 rfl (by omega) (by omega) (by simp)
 rw [List.nil_append] at this
 exact this
theorem ref_number_l0 {s : ByteArray} (hs : s.size ≤ 15) : ∀ (l : List UInt8) (n : Nat) (x : Int), (L s).drop n = l → n ≤ s.size → 0 ≤ x → x < 10 ^ n →
  Ev (fun k => postriderref04_Number.l0 k s x (n : Int)) (if l.all digC then (l.foldl (fun n c => 10 * n + ((c.toNat : Int) - 48)) x, 0) else (0, 5)) := by
 intro l
 induction l with
 | nil =>
  intro n x hd hn h0 h1
  have := drop_end hd
  refine Ev.eq (f := fun _ => some _) (fun k => ?_) (Ev.pure _)
  simp only [postriderref04_Number.l0]
  rw [if_neg (by omega)]; rfl
 | cons c l ih =>
  intro n x hd hn h0 h1
  have hlt := drop_lt hd
  have hb := bt_of hd
  have ew := w1 hlt (by omega)
  have hc := UInt8.toNat_lt c
  have hp : (10 : Int) ^ n ≤ 1000000000000000 := by
   have : ∀ j, j < 16 → (10 : Int) ^ j ≤ 1000000000000000 := by decide
   exact this n (by omega)
  by_cases hd1 : 48 ≤ c.toNat
  ·by_cases hd2 : c.toNat ≤ 57
   ·have hg : digC c = true := by unfold digC; simp [hd1, hd2]
    refine Ev.eq (f := fun k => postriderref04_Number.l0 k s (10 * x + ((c.toNat : Int) - 48)) ((n + 1 : Nat) : Int)) (fun k => ?_) ?_
    ·simp only [postriderref04_Number.l0]
     rw [if_pos (by omega), if_pos (by omega), hb, if_neg (by omega), if_neg (by omega), ew]
     have e1 : wrap64 (10 * x) = 10 * x := wk (by omega) (by omega)
     have e2 : ((c.toNat : Int) - 48) % 256 = (c.toNat : Int) - 48 := by omega
     rw [e1, e2, wk (by omega) (by omega)]
    ·have := ih (n + 1) (10 * x + ((c.toNat : Int) - 48)) (drop_next hd) (by omega) (by omega) (by rw [Int.pow_succ]; omega)
     rw [List.all_cons, hg, Bool.true_and]
     exact this
   ·have hg : digC c = false := by unfold digC; simp [hd2]
    refine Ev.eq (f := fun _ => some _) (fun k => ?_) (Ev.pure _)
    simp only [postriderref04_Number.l0]
    rw [if_pos (by omega), if_pos (by omega), hb, if_neg (by omega), if_pos (by omega), List.all_cons, hg]; rfl
  ·have hg : digC c = false := by unfold digC; simp [hd1]
   refine Ev.eq (f := fun _ => some _) (fun k => ?_) (Ev.pure _)
   simp only [postriderref04_Number.l0]
   rw [if_pos (by omega), if_pos (by omega), hb, if_pos (by omega), List.all_cons, hg]; rfl
theorem ref_number_f {s : ByteArray} (hs : s.size ≤ 70368744177) (d : Int) : Ev (fun k => postriderref04_Number.f k s d) (if numOK s d then (numL (L s), 0) else (0, 5)) := by
 obtain ⟨m, hm⟩ : ∃ m, max 1 (min d 15) = m := ⟨_, rfl⟩
 have hj1 : Ev (fun k => postriderref04_Number.j1 k s m) (if numOK s d then (numL (L s), 0) else (0, 5)) := by
  have hbad : ∀ b : Bool, b = true → numOK s d = false → Ev (fun k => postriderref04_Number.j2 k s b) (if numOK s d then (numL (L s), 0) else (0, 5)) := by
   intro b hb hf
   rw [hb, hf]
   exact Ev.eq (f := fun _ => some _) (fun k => by simp only [postriderref04_Number.j2, if_true]; rfl) (Ev.pure _)
  by_cases h0 : (s.size : Int) < 1
  ·refine Ev.eq (fun k => by simp only [postriderref04_Number.j1]; rw [if_pos h0]) (hbad true rfl ?_)
   have : L s = [] := List.eq_nil_of_length_eq_zero (by rw [L_len]; omega)
   unfold numOK; rw [show s.data.toList = [] from this]; rfl
  ·have hne : s.data.toList.isEmpty = false := by
    cases hl : s.data.toList with
    | nil => have := L_len s; rw [show L s = [] from hl] at this; simp at this; omega
    | cons a t => rfl
   by_cases h1 : (s.size : Int) > m
   ·refine Ev.eq (fun k => by simp only [postriderref04_Number.j1]; rw [if_neg h0, decide_eq_true h1]) (hbad true rfl ?_)
    unfold numOK; rw [hm, decide_eq_false (by omega)]; simp
   ·refine Ev.eq (fun k => by simp only [postriderref04_Number.j1]; rw [if_neg h0, decide_eq_false h1]) ?_
    refine Ev.eq (fun k => by simp only [postriderref04_Number.j2]; rfl) ?_
    have := ref_number_l0 (s := s) (by omega) (L s) 0 0 rfl (by omega) (by omega) (by decide)
    have e : numOK s d = (L s).all digC := by unfold numOK; rw [hm, decide_eq_true (by omega), hne]; rfl
    rw [e]; exact this
 unfold postriderref04_Number.f
 by_cases h1 : d < 1
 ·simp only [h1, if_true]
  obtain rfl : m = 1 := by omega
  exact Ev.eq (fun k => by simp only [postriderref04_Number.j0]; rw [if_neg (by omega)]) hj1
 ·simp only [h1, if_false]
  by_cases h2 : d > 15
  ·obtain rfl : m = 15 := by omega
   exact Ev.eq (fun k => by simp only [postriderref04_Number.j0]; rw [if_pos h2]) hj1
  ·obtain rfl : m = d := by omega
   exact Ev.eq (fun k => by simp only [postriderref04_Number.j0]; rw [if_neg h2]) hj1
theorem ref_plain_f (c : UInt8) : postriderref04_plain.f (c.toNat : Int) = some (plC c) := by
 unfold postriderref04_plain.f plC
 by_cases h : 32 ≤ c.toNat
 ·rw [if_pos (by omega)]; simp [h]; omega
 ·rw [if_neg (by omega)]; simp [h]
theorem ref_plain_l0 {s : ByteArray} (hs : s.size ≤ 70368744177664) : ∀ (l : List UInt8) (n : Nat), (L s).drop n = l → n ≤ s.size → Ev (fun k => postriderref04_Plain.l0 k s (n : Int)) (l.all plC) := by
 intro l
 induction l with
 | nil =>
  intro n hd hn
  have := drop_end hd
  exact Ev.eq (f := fun _ => some _) (fun k => by simp only [postriderref04_Plain.l0]; rw [if_neg (by omega)]; rfl) (Ev.pure _)
 | cons c l ih =>
  intro n hd hn
  have hlt := drop_lt hd
  have hb := bt_of hd
  have ew := w1 hlt (by omega)
  by_cases c1 : plC c
  ·refine Ev.eq (f := fun k => postriderref04_Plain.l0 k s ((n + 1 : Nat) : Int)) (fun k => ?_) ?_
   ·simp only [postriderref04_Plain.l0]
    rw [if_pos (by omega), if_pos (by omega), hb, ref_plain_f, ew]
    simp only [Option.bind_some, c1, if_true]
   ·have := ih (n + 1) (drop_next hd) (by omega)
    simpa [c1] using this
  ·refine Ev.eq (f := fun _ => some _) (fun k => ?_) (Ev.pure _)
   simp only [postriderref04_Plain.l0]
   rw [if_pos (by omega), if_pos (by omega), hb, ref_plain_f]
   simp [c1]
theorem ref_plain_F {s : ByteArray} (hs : s.size ≤ 70368744177664) : Ev (fun k => postriderref04_Plain.f k s) ((L s).all plC) := ref_plain_l0 hs (L s) 0 rfl (by omega)
theorem ref_quote_l0 {s : ByteArray} (hs : s.size ≤ 70368744177000) : ∀ (l out : List UInt8) (n : Nat), (L s).drop n = l → n ≤ s.size → out.length ≤ 2 * n + 1 →
  Ev (fun k => postriderref04_Quote.l0 k s (B out) (n : Int)) (B (out ++ (qtM l ++ [34])), 0) := by
 intro l
 induction l with
 | nil =>
  intro out n hd hn ho
  have := drop_end hd
  refine Ev.eq (f := fun _ => some _) (fun k => ?_) (Ev.pure _)
  simp only [postriderref04_Quote.l0]
  rw [if_neg (by omega), if_pos (by rw [B_size]; omega), show (⟨#[34]⟩ : ByteArray) = B [34] from rfl, B_app]
  rfl
 | cons c l ih =>
  intro out n hd hn ho
  have hlt := drop_lt hd
  have hb := bt_of hd
  have ew := w1 hlt (by omega)
  have hc := cut1 hd
  by_cases c1 : c = 34 ∨ c = 92
  ·have e : qtM (c :: l) = [92, c] ++ qtM l := by simp [qtM, qtC, c1]
   refine Ev.eq (f := fun k => postriderref04_Quote.l0 k s (B (out ++ [92] ++ [c])) ((n + 1 : Nat) : Int)) (fun k => ?_) ?_
   ·simp only [postriderref04_Quote.l0]
    by_cases c2 : c = 34
    ·rw [if_pos (by omega), if_pos (by omega), hb, if_pos (show (c.toNat : Int) = 34 by rw [c2]; rfl), ew, if_pos (by rw [B_size]; omega), if_pos (by omega), if_pos (by omega)]
     simp only [Int.toNat_natCast]
     rw [hc, show (⟨#[92]⟩ : ByteArray) = B [92] from rfl, B_app, if_pos (by rw [B_size, B_size]; simp; omega), B_app]
    ·rw [if_pos (by omega), if_pos (by omega), hb, if_neg (show ¬ (c.toNat : Int) = 34 from fun h => c2 ((c_eq c 34).1 h)), if_pos (show (c.toNat : Int) = 92 by rw [c1.resolve_left c2]; rfl), ew, if_pos (by rw [B_size]; omega), if_pos (by omega), if_pos (by omega)]
     simp only [Int.toNat_natCast]
     rw [hc, show (⟨#[92]⟩ : ByteArray) = B [92] from rfl, B_app, if_pos (by rw [B_size, B_size]; simp; omega), B_app]
   ·have := ih (out ++ [92] ++ [c]) (n + 1) (drop_next hd) (by omega) (by simp; omega)
    rw [e]; simpa using this
  ·have e : qtM (c :: l) = [c] ++ qtM l := by simp [qtM, qtC, c1]
   refine Ev.eq (f := fun k => postriderref04_Quote.l0 k s (B (out ++ [c])) ((n + 1 : Nat) : Int)) (fun k => ?_) ?_
   ·simp only [postriderref04_Quote.l0]
    rw [if_pos (by omega), if_pos (by omega), hb, if_neg (show ¬ (c.toNat : Int) = 34 from fun h => c1 (.inl ((c_eq c 34).1 h))), if_neg (show ¬ (c.toNat : Int) = 92 from fun h => c1 (.inr ((c_eq c 92).1 h))), ew, if_pos (by omega), if_pos (by omega)]
    simp only [Int.toNat_natCast]
    rw [hc, if_pos (by rw [B_size, B_size]; simp; omega), B_app]
   ·have := ih (out ++ [c]) (n + 1) (drop_next hd) (by omega) (by simp; omega)
    rw [e]; simpa using this
theorem ref_quote_f {s : ByteArray} (hs : s.size ≤ 70368744177000) : Ev (fun k => postriderref04_Quote.f k s) (if (L s).all plC then (B (34 :: (qtM (L s) ++ [34])), 0) else (B [], 5)) := by
 unfold postriderref04_Quote.f
 refine Ev.bind2 (ref_plain_F (by omega)) ?_
 by_cases h : (L s).all plC
 ·rw [if_pos h]
  simp only [h, if_true]
  exact ref_quote_l0 hs (L s) [34] 0 rfl (by omega) (by simp)
 ·rw [if_neg h]
  simp only [h]
  exact Ev.pure _
end Go.Proofs.YtgelfnjicglmbaaGreatDoor.S

