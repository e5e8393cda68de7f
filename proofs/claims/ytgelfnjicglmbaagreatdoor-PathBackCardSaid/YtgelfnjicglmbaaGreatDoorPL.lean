/- Paths as lists of bytes: what a path's text is, and what is read of one; no program in sight. -/
import Derived.Test.YtgelfnjicglmbaaGreatDoorAB
namespace Go.Proofs.YtgelfnjicglmbaaGreatDoor.S
open Go.RowKit Go.Proofs.YtgelfnjicglmbaaGreatDoor.Q Go.Proofs.YtgelfnjicglmbaaGreatDoorW.PrintWords Go.Proofs.YtgelfnjicglmbaaGreatDoorW.PrintLast Go.Proofs.YtgelfnjicglmbaaGreatDoorW.PrintMore
set_option linter.unusedVariables false
set_option linter.unusedSimpArgs false
/-- A route at the front, what stands behind it, and whether it is one. -/
def rtL (l : List UInt8) : List (List UInt8) × List UInt8 × Bool :=
 if l.head? = some 64 then
  (if (Lib.cut l [58]).2.2 = true then (if (spL 44 (Lib.cut l [58]).1 []).all (fun p => decide (p.head? = some 64)) = true then ((spL 44 (Lib.cut l [58]).1 []).map List.tail, (Lib.cut l [58]).2.1, true) else ([], [], false)) else ([], [], false))
 else ([], l, true)
/-- Where an address at the front ends. -/
def mnL (l : List UInt8) : Nat := if l.head? = some 34 ∧ (qd l).2.2 = 0 then (qd l).2.1 else 0
def enL (l : List UInt8) : Int := if Lib.indexByte (l.drop (mnL l)) 62 ≥ 0 then (mnL l : Int) + Lib.indexByte (l.drop (mnL l)) 62 else -1
/-- What is wrong with a route's domains. -/
def dsL (ls : List (List UInt8)) : Nat :=
 if ls.any (fun d => decide ((paL (120 :: 64 :: d)).2.2 = 5)) = true then 5 else if 8 < ls.length ∨ ls.any (fun d => decide ((paL (120 :: 64 :: d)).2.2 = 3)) = true then 3 else 0
structure Pth where
 nul : Bool
 post : Bool
 route : List (List UInt8)
 loc : List UInt8
 dom : List UInt8
def noP : Pth := ⟨false, false, [], [], []⟩
/-- A path's text. -/
def tpL (p : Pth) : List UInt8 := if p.nul = true then [60, 62] else if p.post = true then [60, 80, 111, 115, 116, 109, 97, 115, 116, 101, 114, 62] else if mayB p.loc p.dom = true then 60 :: (txA p.loc p.dom ++ [62]) else []
/-- What is told of an address, behind its route. -/
def fnP (many : Nat) (l : List (List UInt8)) (one behind : List UInt8) (wrong : Nat) : Pth × List UInt8 × Nat :=
 if one = [] ∧ l = [] then (if wrong = 0 ∧ many ≤ 256 then (⟨true, false, l, [], []⟩, behind, 0) else (noP, [], 3))
 else if lowA one = pmL ∧ l = [] then (if wrong = 0 ∧ many ≤ 256 then (⟨false, true, l, [], []⟩, behind, 0) else (noP, [], 3))
 else if (paL one).2.2 = 5 ∨ wrong = 5 then (noP, [], 5)
 else if wrong = 0 ∧ (paL one).2.2 = 0 ∧ many ≤ 256 then (⟨false, false, l, (paL one).1, (paL one).2.1⟩, behind, 0) else (noP, [], 3)
/-- What is read of a text. -/
def psL (s : List UInt8) : Pth × List UInt8 × Nat :=
 if s.head? = some 60 then
  (if (rtL s.tail).2.2 = true ∧ 0 ≤ enL (rtL s.tail).2.1 then
   fnP (s.length - ((rtL s.tail).2.1.drop ((enL (rtL s.tail).2.1).toNat + 1)).length) (rtL s.tail).1 ((rtL s.tail).2.1.take (enL (rtL s.tail).2.1).toNat) ((rtL s.tail).2.1.drop ((enL (rtL s.tail).2.1).toNat + 1)) (dsL (rtL s.tail).1)
  else (noP, [], 5))
 else (noP, [], 5)
theorem ix_at {c : UInt8} : ∀ {a : List UInt8} (b : List UInt8), c ∉ a → Lib.indexByte (a ++ c :: b) c = (a.length : Int)
 | [], b, _ => by simp [Lib.indexByte]
 | x :: a, b, h => by
  have h1 : ¬ x = c := fun e => h (by rw [e]; exact List.mem_cons_self)
  have ih := ix_at (a := a) b (fun q => h (List.mem_cons_of_mem _ q))
  rw [List.cons_append, Lib.indexByte, ih, if_neg (by simpa using h1), if_neg (by simp), List.length_cons]
  omega
theorem en_text {a b : List UInt8} (h : mayB a b = true) (r : List UInt8) : enL (txA a b ++ 62 :: r) = ((txA a b).length : Int) := by
 obtain ⟨h0, h1, h2, h3⟩ := may_parts h
 have hb : (62 : UInt8) ∉ b := dm_no (by decide) (by decide) (by decide) (by decide) (by decide) h3
 have hb1 : (62 : UInt8) ∉ (64 :: b) := fun e => by
  rcases List.mem_cons.1 e with e | e
  ·exact absurd e (by decide)
  ·exact hb e
 rw [tx_yes h]
 unfold enL
 by_cases hd : dtL a true = true
 ·have e : wdT5 a = a := by unfold wdT5; rw [if_pos hd]
  rw [e]
  have hm : mnL ((a ++ 64 :: b) ++ 62 :: r) = 0 := by
   unfold mnL
   rw [if_neg (fun q => by
    rw [List.append_assoc] at q
    exact dt_head hd 34 (by decide) (by decide) _ q.1)]
  rw [hm, List.drop_zero]
  have hn : (62 : UInt8) ∉ a ++ 64 :: b := fun q => by
   rcases List.mem_append.1 q with q | q
   ·exact let_no 62 (by decide) (by decide) hd q
   ·exact hb1 q
  rw [ix_at r hn, if_pos (by omega)]
  omega
 ·have e : wdT5 a = 34 :: (qtM a ++ [34]) := by unfold wdT5; rw [if_neg hd]
  rw [e]
  have hq := qd_q a (64 :: b ++ 62 :: r) h2
  have hm : mnL ((34 :: (qtM a ++ [34]) ++ 64 :: b) ++ 62 :: r) = (qtM a).length + 2 := by
   unfold mnL
   rw [List.append_assoc, hq, if_pos ⟨by simp, rfl⟩]
  rw [hm]
  have hdr : ((34 :: (qtM a ++ [34]) ++ 64 :: b) ++ 62 :: r).drop ((qtM a).length + 2) = (64 :: b) ++ 62 :: r := by
   rw [List.append_assoc, show (qtM a).length + 2 = (34 :: (qtM a ++ [34])).length from by simp]
   exact List.drop_left
  rw [hdr, ix_at r hb1, if_pos (by omega)]
  simp only [List.length_cons, List.length_append, List.length_nil]
  omega
theorem rt_no {l : List UInt8} (h : l.head? ≠ some 64) : rtL l = ([], l, true) := by unfold rtL; rw [if_neg h]
theorem tx_head {a b : List UInt8} (h : mayB a b = true) (r : List UInt8) : (txA a b ++ r).head? ≠ some 64 := by
 rw [tx_yes h]
 unfold wdT5
 by_cases hd : dtL a true = true
 ·rw [if_pos hd, List.append_assoc]
  exact dt_head hd 64 (by decide) (by decide) _
 ·rw [if_neg hd]; simp
theorem tx_low {a b : List UInt8} (h : mayB a b = true) : lowA (txA a b) ≠ pmL := fun e => by
 have hm : (64 : UInt8) ∈ txA a b := by rw [tx_yes h]; simp
 have : lowC 64 ∈ lowA (txA a b) := List.mem_map_of_mem hm
 rw [e] at this
 exact absurd this (by decide)
/-- There and back. -/
theorem ps_text {a b : List UInt8} (h : mayB a b = true) (r : List UInt8) :
  psL (60 :: (txA a b ++ [62]) ++ r) = if (txA a b).length + 2 ≤ 256 then (⟨false, false, [], a, b⟩, r, 0) else (noP, [], 3) := by
 have e1 : 60 :: (txA a b ++ [62]) ++ r = 60 :: (txA a b ++ 62 :: r) := by simp
 rw [e1]
 unfold psL
 rw [if_pos (by rfl), List.tail_cons, rt_no (tx_head h _), en_text h r, if_pos ⟨rfl, by omega⟩, Int.toNat_natCast]
 have hd : (txA a b ++ 62 :: r).drop ((txA a b).length + 1) = r := by
  rw [← List.drop_drop, List.drop_left]; rfl
 rw [hd, List.take_left]
 have hn : txA a b ≠ [] := fun e => by
  have := congrArg List.length e
  rw [tx_yes h] at this
  simp at this
 unfold fnP
 rw [if_neg (fun q => hn q.1), if_neg (fun q => tx_low h q.1), pa_text h]
 have hds : dsL [] = 0 := rfl
 dsimp only
 rw [hds, if_neg (by simp)]
 have hl : (60 :: (txA a b ++ 62 :: r)).length - r.length = (txA a b).length + 2 := by
  simp only [List.length_cons, List.length_append]; omega
 rw [hl]
 by_cases hc : (txA a b).length + 2 ≤ 256
 ·rw [if_pos ⟨rfl, rfl, hc⟩, if_pos hc]
 ·rw [if_neg (fun q => hc q.2.2), if_neg hc]
theorem ps_null (r : List UInt8) : psL ([60, 62] ++ r) = (⟨true, false, [], [], []⟩, r, 0) := by
 have e : Lib.indexByte (62 :: r) 62 = 0 := ix_at (a := []) r (by simp)
 have e2 : mnL (62 :: r) = 0 := by unfold mnL; rw [if_neg (by simp)]
 have e3 : enL (62 :: r) = 0 := by unfold enL; rw [e2, List.drop_zero, e]; rfl
 show psL (60 :: 62 :: r) = _
 unfold psL
 rw [if_pos (by rfl), List.tail_cons, rt_no (by simp), e3, if_pos ⟨rfl, by omega⟩]
 have hd : (62 :: r).drop ((0 : Int).toNat + 1) = r := rfl
 rw [hd]
 unfold fnP
 have hl : (60 :: 62 :: r).length - r.length = 2 := by simp only [List.length_cons]; omega
 rw [if_pos ⟨rfl, rfl⟩, hl]
 rfl
theorem ps_post (r : List UInt8) : psL ([60, 80, 111, 115, 116, 109, 97, 115, 116, 101, 114, 62] ++ r) = (⟨false, true, [], [], []⟩, r, 0) := by
 have e : Lib.indexByte ([80, 111, 115, 116, 109, 97, 115, 116, 101, 114] ++ 62 :: r) 62 = ((10 : Nat) : Int) := ix_at (a := [80, 111, 115, 116, 109, 97, 115, 116, 101, 114]) r (by decide)
 have e2 : mnL ([80, 111, 115, 116, 109, 97, 115, 116, 101, 114] ++ 62 :: r) = 0 := by unfold mnL; rw [if_neg (by simp)]
 have e3 : enL ([80, 111, 115, 116, 109, 97, 115, 116, 101, 114] ++ 62 :: r) = 10 := by unfold enL; rw [e2, List.drop_zero, e]; rfl
 have e4 : ([80, 111, 115, 116, 109, 97, 115, 116, 101, 114] ++ 62 :: r).head? ≠ some 64 := by simp
 have e0 : [60, 80, 111, 115, 116, 109, 97, 115, 116, 101, 114, 62] ++ r = 60 :: ([80, 111, 115, 116, 109, 97, 115, 116, 101, 114] ++ 62 :: r) := rfl
 rw [e0]
 generalize hz : ([80, 111, 115, 116, 109, 97, 115, 116, 101, 114] : List UInt8) = z at *
 unfold psL
 rw [if_pos (by rfl), List.tail_cons, rt_no e4, e3, if_pos ⟨rfl, by omega⟩]
 have hd : (z ++ 62 :: r).drop ((10 : Int).toNat + 1) = r := by rw [← hz]; rfl
 have ht : (z ++ 62 :: r).take ((10 : Int).toNat) = z := by rw [← hz]; rfl
 have hzl : z.length = 10 := by rw [← hz]; rfl
 have hzn : z ≠ [] := by rw [← hz]; simp
 have hlow : lowA z = pmL := by rw [← hz]; decide
 rw [hd, ht]
 unfold fnP
 have hl : (60 :: (z ++ 62 :: r)).length - r.length = 12 := by simp only [List.length_cons, List.length_append]; omega
 rw [if_neg (fun q => hzn q.1), if_pos ⟨hlow, rfl⟩, hl]
 rfl
theorem fn_ok {many : Nat} {l : List (List UInt8)} {one behind : List UInt8} {wrong : Nat} {p : Pth} {r : List UInt8} {e : Nat} (h : fnP many l one behind wrong = (p, r, e)) :
  (e ≠ 0 ∧ p = noP ∧ r = []) ∨ (e = 0 ∧ r = behind ∧ many ≤ 256 ∧ ((p.nul = true ∧ p.post = false ∧ p.loc = [] ∧ p.dom = []) ∨ (p.nul = false ∧ p.post = true ∧ p.loc = [] ∧ p.dom = []) ∨ (p.nul = false ∧ p.post = false ∧ paL one = (p.loc, p.dom, 0)))) := by
 unfold fnP at h
 by_cases c1 : one = [] ∧ l = []
 ·rw [if_pos c1] at h
  by_cases c : wrong = 0 ∧ many ≤ 256
  ·rw [if_pos c] at h
   simp only [Prod.mk.injEq] at h
   obtain ⟨rfl, rfl, rfl⟩ := h
   exact .inr ⟨rfl, rfl, c.2, .inl ⟨rfl, rfl, rfl, rfl⟩⟩
  ·rw [if_neg c] at h
   simp only [Prod.mk.injEq] at h
   obtain ⟨rfl, rfl, rfl⟩ := h
   exact .inl ⟨by decide, rfl, rfl⟩
 ·rw [if_neg c1] at h
  by_cases c2 : lowA one = pmL ∧ l = []
  ·rw [if_pos c2] at h
   by_cases c : wrong = 0 ∧ many ≤ 256
   ·rw [if_pos c] at h
    simp only [Prod.mk.injEq] at h
    obtain ⟨rfl, rfl, rfl⟩ := h
    exact .inr ⟨rfl, rfl, c.2, .inr (.inl ⟨rfl, rfl, rfl, rfl⟩)⟩
   ·rw [if_neg c] at h
    simp only [Prod.mk.injEq] at h
    obtain ⟨rfl, rfl, rfl⟩ := h
    exact .inl ⟨by decide, rfl, rfl⟩
  ·rw [if_neg c2] at h
   by_cases c3 : (paL one).2.2 = 5 ∨ wrong = 5
   ·rw [if_pos c3] at h
    simp only [Prod.mk.injEq] at h
    obtain ⟨rfl, rfl, rfl⟩ := h
    exact .inl ⟨by decide, rfl, rfl⟩
   ·rw [if_neg c3] at h
    by_cases c : wrong = 0 ∧ (paL one).2.2 = 0 ∧ many ≤ 256
    ·rw [if_pos c] at h
     simp only [Prod.mk.injEq] at h
     obtain ⟨rfl, rfl, rfl⟩ := h
     refine .inr ⟨rfl, rfl, c.2.2, .inr (.inr ⟨rfl, rfl, ?_⟩)⟩
     have := c.2.1
     generalize paL one = q at this ⊢
     obtain ⟨q1, q2, q3⟩ := q
     dsimp only at this
     rw [this]
    ·rw [if_neg c] at h
     simp only [Prod.mk.injEq] at h
     obtain ⟨rfl, rfl, rfl⟩ := h
     exact .inl ⟨by decide, rfl, rfl⟩
theorem cut_hit1 {p q : List UInt8} (h : (58 : UInt8) ∉ p) : Lib.cut (p ++ (58 :: q)) [58] = (p, q, true) := by
 have hi : Lib.index (p ++ (58 :: q)) [58] = (p.length : Int) := ix_hit (t := []) (b := q) h
 unfold Lib.cut
 rw [hi, if_pos (by omega), Int.toNat_natCast, List.take_left, ← List.drop_drop, List.drop_left]
 rfl
theorem cut_miss1 {p : List UInt8} (h : (58 : UInt8) ∉ p) : Lib.cut p [58] = (p, [], false) := by
 unfold Lib.cut
 rw [ix_miss h, if_neg (by omega)]
theorem cut_behind {l : List UInt8} : ∃ a, a ++ (Lib.cut l [58]).2.1 = l ∨ (Lib.cut l [58]).2.1 = [] := by
 by_cases h : (58 : UInt8) ∈ l
 ·obtain ⟨a, b, e, hn⟩ : ∃ a b, l = a ++ 58 :: b ∧ (58 : UInt8) ∉ a := by
   induction l with
   | nil => cases h
   | cons x t ih =>
    by_cases e : x = 58
    ·exact ⟨[], t, by rw [e]; rfl, by simp⟩
    ·rcases List.mem_cons.1 h with h | h
     ·exact absurd h.symm e
     ·obtain ⟨a, b, e1, e2⟩ := ih h
      exact ⟨x :: a, b, by rw [e1]; rfl, fun q => by
       rcases List.mem_cons.1 q with q | q
       ·exact e q.symm
       ·exact e2 q⟩
  rw [e, cut_hit1 hn]
  exact ⟨a ++ [58], .inl (by simp)⟩
 ·rw [cut_miss1 h]
  exact ⟨[], .inr rfl⟩
theorem rt_suffix (l : List UInt8) : ∃ a, a ++ (rtL l).2.1 = l ∨ (rtL l).2.1 = [] := by
 unfold rtL
 split
 ·split
  ·split
   ·exact cut_behind
   ·exact ⟨[], .inr rfl⟩
  ·exact ⟨[], .inr rfl⟩
 ·exact ⟨[], .inl rfl⟩
theorem ix_lt {c : UInt8} {l : List UInt8} (h : 0 ≤ Lib.indexByte l c) : (Lib.indexByte l c).toNat < l.length := by
 obtain ⟨k, hk⟩ : ∃ k : Nat, Lib.indexByte l c = (k : Int) := ⟨(Lib.indexByte l c).toNat, by omega⟩
 rw [hk, Int.toNat_natCast]
 exact (ix_some hk).1
theorem en_lt {l : List UInt8} (h : 0 ≤ enL l) : (enL l).toNat < l.length := by
 unfold enL at h ⊢
 by_cases c : Lib.indexByte (l.drop (mnL l)) 62 ≥ 0
 ·rw [if_pos c] at h ⊢
  have := ix_lt c
  rw [List.length_drop] at this
  omega
 ·rw [if_neg c] at h; omega
/-- Whatever is read is a path, and what stood behind; its text is read as the same, but for the route. -/
theorem ps_ok {s : List UInt8} {p : Pth} {r : List UInt8} {e : Nat} (h : psL s = (p, r, e)) :
  (e ≠ 0 ∧ p = noP ∧ r = []) ∨ (e = 0 ∧ (∃ a, a ++ r = s) ∧ r.length + 1 < s.length ∧ psL (tpL p) = (⟨p.nul, p.post, [], p.loc, p.dom⟩, [], 0)) := by
 unfold psL at h
 by_cases c1 : s.head? = some 60
 ·rw [if_pos c1] at h
  obtain ⟨inner, rfl⟩ : ∃ t, s = 60 :: t := by
   cases s with
   | nil => cases c1
   | cons x t => exact ⟨t, by simp at c1; rw [c1]⟩
  rw [List.tail_cons] at h
  by_cases c2 : (rtL inner).2.2 = true ∧ 0 ≤ enL (rtL inner).2.1
  ·rw [if_pos c2] at h
   have hlt := en_lt c2.2
   obtain ⟨a, ha⟩ := rt_suffix inner
   have ha : a ++ (rtL inner).2.1 = inner := by
    rcases ha with ha | ha
    ·exact ha
    ·rw [ha] at hlt; simp at hlt
   generalize (rtL inner).2.1 = rt at *
   generalize hk : (enL rt).toNat = k at *
   rcases fn_ok h with h | ⟨h1, h2, h3, h4⟩
   ·exact .inl h
   ·have hsz : inner.length = a.length + rt.length := by rw [← ha, List.length_append]
    have hr : r.length = rt.length - (k + 1) := by rw [h2, List.length_drop]
    refine .inr ⟨h1, ⟨60 :: a ++ rt.take (k + 1), by rw [h2, List.append_assoc, List.take_append_drop, List.cons_append, ha]⟩, by rw [List.length_cons]; omega, ?_⟩
    have hdl : (rt.drop (k + 1)).length = rt.length - (k + 1) := List.length_drop
    rw [List.length_cons] at h3
    unfold tpL
    rcases h4 with ⟨n1, n2, n3, n4⟩ | ⟨n1, n2, n3, n4⟩ | ⟨n1, n2, n3⟩
    ·rw [n1, n2, n3, n4, if_pos rfl]
     have := ps_null []
     rwa [List.append_nil] at this
    ·rw [n1, n2, n3, n4, if_neg (by decide), if_pos rfl]
     have := ps_post []
     rwa [List.append_nil] at this
    ·obtain ⟨m1, m2⟩ := pa_ok n3
     rw [n1, n2, if_neg (by decide), if_neg (by decide), if_pos m1]
     have := ps_text m1 []
     rw [List.append_nil] at this
     rw [this, if_pos]
     have : (rt.take k).length = k := by rw [List.length_take]; omega
     omega
  ·rw [if_neg c2] at h
   simp only [Prod.mk.injEq] at h
   obtain ⟨rfl, rfl, rfl⟩ := h
   exact .inl ⟨by decide, rfl, rfl⟩
 ·rw [if_neg c1] at h
  simp only [Prod.mk.injEq] at h
  obtain ⟨rfl, rfl, rfl⟩ := h
  exact .inl ⟨by decide, rfl, rfl⟩
theorem ps_small {s : List UInt8} {p : Pth} {r : List UInt8} {e : Nat} (h : psL s = (p, r, e)) : p.loc.length ≤ 64 ∧ p.dom.length ≤ s.length := by
 unfold psL at h
 by_cases c1 : s.head? = some 60
 ·rw [if_pos c1] at h
  by_cases c2 : (rtL s.tail).2.2 = true ∧ 0 ≤ enL (rtL s.tail).2.1
  ·rw [if_pos c2] at h
   have hlt := en_lt c2.2
   obtain ⟨a, ha⟩ := rt_suffix s.tail
   have ha : a ++ (rtL s.tail).2.1 = s.tail := by
    rcases ha with ha | ha
    ·exact ha
    ·rw [ha] at hlt; simp at hlt
   have hle : (rtL s.tail).2.1.length ≤ s.length := by
    have h1 := congrArg List.length ha
    rw [List.length_append, List.length_tail] at h1
    omega
   generalize (rtL s.tail).2.1 = rt at *
   rcases fn_ok h with ⟨_, rfl, _⟩ | ⟨_, _, _, h4⟩
   ·exact ⟨by simp [noP], by simp [noP]⟩
   ·rcases h4 with ⟨_, _, n3, n4⟩ | ⟨_, _, n3, n4⟩ | ⟨_, _, n3⟩
    ·rw [n3, n4]; simp
    ·rw [n3, n4]; simp
    ·obtain ⟨q1, q2⟩ := pa_ok n3
     obtain ⟨_, p1, _, _⟩ := may_parts q1
     rw [tx_yes q1, List.length_append, List.length_cons] at q2
     have : (rt.take (enL rt).toNat).length ≤ rt.length := by rw [List.length_take]; omega
     omega
  ·rw [if_neg c2] at h
   simp only [Prod.mk.injEq] at h
   obtain ⟨rfl, rfl, rfl⟩ := h
   simp [noP]
 ·rw [if_neg c1] at h
  simp only [Prod.mk.injEq] at h
  obtain ⟨rfl, rfl, rfl⟩ := h
  simp [noP]
end Go.Proofs.YtgelfnjicglmbaaGreatDoor.S
