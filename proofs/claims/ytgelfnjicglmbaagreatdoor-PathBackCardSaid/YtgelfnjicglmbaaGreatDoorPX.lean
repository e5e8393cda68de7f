/- What the program's functions of paths come to. -/
import Derived.Test.YtgelfnjicglmbaaGreatDoorPL
import Derived.Test.YtgelfnjicglmbaaGreatDoorAE6
import Derived.Test.YtgelfnjicglmbaaGreatDoorQx0
import Derived.Test.YtgelfnjicglmbaaGreatDoorQx7
namespace Go.Proofs.YtgelfnjicglmbaaGreatDoor.S
open Go.RowKit Go.Proofs.YtgelfnjicglmbaaGreatDoor.Q Go.Proofs.YtgelfnjicglmbaaGreatDoorW.PrintWords Go.Proofs.YtgelfnjicglmbaaGreatDoorW.PrintLast Go.Proofs.YtgelfnjicglmbaaGreatDoorW.PrintMore
set_option linter.unusedVariables false
set_option linter.unusedSimpArgs false
theorem cut58 {s : ByteArray} (hs : s.size < 4294967281) : strings_Cut.f s (⟨#[58]⟩ : ByteArray) = some (B (Lib.cut (L s) [58]).1, B (Lib.cut (L s) [58]).2.1, (Lib.cut (L s) [58]).2.2) := by
 unfold strings_Cut.f
 rw [if_pos hs]; rfl
theorem hasP1 {s : ByteArray} (c : UInt8) (hs : s.size ≤ 70368744177) : strings_HasPrefix.f s (⟨#[c]⟩ : ByteArray) = some (decide ((L s).head? = some c)) := by
 unfold strings_HasPrefix.f
 rw [hpre1 c hs]; rfl
theorem rt_l0 {ps : List ByteArray} {rest : ByteArray} (hl : ps.length ≤ 1000000) (hp : ∀ p ∈ ps, p.size ≤ 1000000) : ∀ (d j : Nat) (acc : List ByteArray), j + d = ps.length → acc.length ≤ j →
  Ev (fun k => path_route.l0 k rest acc ps (ps.length : Int) (j : Int)) (if (ps.drop j).all (fun p => decide ((L p).head? = some 64)) = true then (acc ++ (ps.drop j).map (fun p => B (L p).tail), rest, true) else ([], ⟨#[]⟩, false)) := by
 intro d
 induction d with
 | zero =>
  intro j acc h _
  rw [List.drop_of_length_le (by omega)]
  refine Ev.eq (f := fun _ => some _) (fun k => ?_) (Ev.pure _)
  simp only [path_route.l0]
  rw [if_neg (by omega)]
  simp
 | succ d ih =>
  intro j acc h ha
  have hj : j < ps.length := by omega
  have ew := w1 (n := j) (m := ps.length) hj (by omega)
  have hr : rdOf ByteArray.empty ps (j : Int) = ps[j]'hj := by simp [rdOf, hj]
  have hz := hp _ (List.getElem_mem hj)
  rw [List.drop_eq_getElem_cons hj, List.all_cons, List.map_cons]
  by_cases c : (L (ps[j]'hj)).head? = some 64
  ·rw [decide_eq_true c, Bool.true_and]
   have key := ih (j + 1) (acc ++ [B (L (ps[j]'hj)).tail]) (by omega) (by rw [List.length_append, List.length_singleton]; omega)
   rw [List.append_assoc] at key
   refine Ev.eq (f := fun k => path_route.l0 k rest (acc ++ [B (L (ps[j]'hj)).tail]) ps (ps.length : Int) ((j + 1 : Nat) : Int)) (fun k => ?_) key
   simp only [path_route.l0]
   rw [if_pos (by omega), if_pos (by omega), if_pos (by omega), hr, cutP1 64 (by omega), Option.bind_some, if_pos c, if_pos (by rfl), if_pos (by omega), ew]
  ·rw [decide_eq_false c, Bool.false_and, if_neg (by decide)]
   refine Ev.eq (f := fun _ => some _) (fun k => ?_) (Ev.pure _)
   simp only [path_route.l0]
   rw [if_pos (by omega), if_pos (by omega), if_pos (by omega), hr, cutP1 64 (by omega), Option.bind_some, if_neg c, if_neg (by simp)]
theorem cut_le (l : List UInt8) : (Lib.cut l [58]).1.length ≤ l.length ∧ (Lib.cut l [58]).2.1.length ≤ l.length := by
 by_cases h : (58 : UInt8) ∈ l
 ·obtain ⟨a, b, e, hn⟩ : ∃ a b, l = a ++ 58 :: b ∧ (58 : UInt8) ∉ a := by
   induction l with
   | nil => cases h
   | cons x t ih =>
    by_cases e : x = 58
    ·exact ⟨[], t, by rw [e]; rfl, by simp⟩
    ·rcases List.mem_cons.1 h with h | h
     ·exact absurd h.symm e
     ·obtain ⟨a, b, e1, e2⟩ := ih h
      exact ⟨x :: a, b, by rw [e1]; rfl, fun q => by
       rcases List.mem_cons.1 q with q | q
       ·exact e q.symm
       ·exact e2 q⟩
  rw [e, cut_hit1 hn]
  simp only [List.length_append, List.length_cons]; omega
 ·rw [cut_miss1 h]; simp
theorem route_f {s : ByteArray} (hs : s.size ≤ 100000) : Ev (fun k => path_route.f k s) ((rtL (L s)).1.map B, B (rtL (L s)).2.1, (rtL (L s)).2.2) := by
 have hL := L_len s
 unfold path_route.f rtL
 refine Ev.bindc (hasP1 64 (by omega)) ?_
 by_cases c : (L s).head? = some 64
 ·refine Ev.cong (fun k => if_pos (decide_eq_true c)) ?_
  rw [if_pos c]
  refine Ev.bindc (cut58 (by omega)) ?_
  have hcl := cut_le (L s)
  by_cases c2 : (Lib.cut (L s) [58]).2.2 = true
  ·refine Ev.cong (fun k => if_pos c2) ?_
   rw [if_pos c2]
   have hsp := split_f (c := 44) (x := B (Lib.cut (L s) [58]).1) (by rw [B_size]; omega)
   rw [L_B] at hsp
   refine Ev.bind2 hsp ?_
   have hn := sp_len 44 (Lib.cut (L s) [58]).1 []
   have hm := sp_small 44 (Lib.cut (L s) [58]).1 []
   have key := rt_l0 (ps := (spL 44 (Lib.cut (L s) [58]).1 []).map B) (rest := B (Lib.cut (L s) [58]).2.1) (by rw [List.length_map]; omega) (fun p hp => by
    obtain ⟨q, hq, rfl⟩ := List.mem_map.1 hp
    have := hm q hq
    rw [B_size]; simp only [List.length_nil] at this; omega) ((spL 44 (Lib.cut (L s) [58]).1 []).map B).length 0 [] (by omega) (by simp)
   rw [List.drop_zero, List.nil_append, List.all_map, List.map_map] at key
   have e1 : ((fun p : ByteArray => decide ((L p).head? = some 64)) ∘ B) = (fun p : List UInt8 => decide (p.head? = some 64)) := by funext p; simp [L_B]
   have e2 : ((fun p : ByteArray => B (L p).tail) ∘ B) = B ∘ List.tail := by funext p; simp [L_B]
   rw [e1, e2] at key
   refine Ev.cong (f := fun k => path_route.l0 k (B (Lib.cut (L s) [58]).2.1) [] ((spL 44 (Lib.cut (L s) [58]).1 []).map B) (((spL 44 (Lib.cut (L s) [58]).1 []).map B).length : Int) ((0 : Nat) : Int)) (fun k => rfl) ?_
   by_cases c3 : (spL 44 (Lib.cut (L s) [58]).1 []).all (fun p => decide (p.head? = some 64)) = true
   ·rw [if_pos c3] at key ⊢
    rw [List.map_map]; exact key
   ·rw [if_neg c3] at key ⊢
    exact key
  ·refine Ev.cong (fun k => if_neg c2) ?_
   rw [if_neg c2]
   exact Ev.pure _
 ·refine Ev.cong (fun k => if_neg (by simp [c])) ?_
  rw [if_neg c, B_L]
  exact Ev.pure _
theorem ixb {s : ByteArray} : strings_IndexByte.f s 62 = some (Lib.indexByte (L s) 62) := rfl
theorem ends_f {s : ByteArray} (hs : s.size ≤ 100000) : Ev (fun k => path_ends.f k s) (enL (L s)) := by
 have hL := L_len s
 unfold path_ends.f
 refine Ev.bindc (hasP1 34 (by omega)) ?_
 have no' : mnL (L s) = 0 → Ev (fun _ : Nat => if 0 ≤ (s.size : Int) then ((strings_IndexByte.f s 62).bind fun t200 => (if t200 ≥ 0 then (some (wrap64 (0 + t200))) else (some (-1)))) else (none)) (enL (L s)) := fun hm => by
  unfold enL
  rw [hm, List.drop_zero]
  refine Ev.cong (f := fun _ => some _) (fun k => ?_) (Ev.pure _)
  rw [if_pos (by omega), ixb, Option.bind_some]
  by_cases c : Lib.indexByte (L s) 62 ≥ 0
  ·have := ix_lt c
   rw [if_pos c, if_pos c, wk (by omega) (by omega)]; simp
  ·rw [if_neg c, if_neg c]
 by_cases c : (L s).head? = some 34
 ·refine Ev.cong (fun k => if_pos (decide_eq_true c)) ?_
  refine Ev.bind2 (quoted_f (by omega)) ?_
  by_cases c2 : (qd (L s)).2.2 = 0
  ·have hm : mnL (L s) = (qd (L s)).2.1 := by unfold mnL; rw [if_pos ⟨c, c2⟩]
   have hq := (qd_le (L s)).1
   refine Ev.cong (fun k => if_pos (by show (((qd (L s)).2.2 : Nat) : Int) = 0; omega)) ?_
   unfold enL
   rw [hm]
   refine Ev.cong (f := fun _ => some _) (fun k => ?_) (Ev.pure _)
   show (if 0 ≤ (((qd (L s)).2.1 : Nat) : Int) then _ else _) = _
   rw [if_pos (by omega)]
   show (if (((qd (L s)).2.1 : Nat) : Int) ≤ (s.size : Int) then _ else _) = _
   rw [if_pos (by omega), ixb, Option.bind_some]
   have e : L (s.extract ((res3 (qd (L s))).2.1).toNat s.size) = (L s).drop (qd (L s)).2.1 := by
    show L (s.extract ((((qd (L s)).2.1 : Nat) : Int)).toNat s.size) = _
    rw [Int.toNat_natCast, L_ext_end]
   rw [e]
   by_cases c3 : Lib.indexByte ((L s).drop (qd (L s)).2.1) 62 ≥ 0
   ·have h3 := ix_lt c3
    rw [List.length_drop] at h3
    rw [if_pos c3, if_pos c3]
    show some (wrap64 ((((qd (L s)).2.1 : Nat) : Int) + _)) = _
    rw [wk (by omega) (by omega)]
   ·rw [if_neg c3, if_neg c3]
  ·have hm : mnL (L s) = 0 := by unfold mnL; rw [if_neg (fun q => c2 q.2)]
   refine Ev.cong (fun k => if_neg (by show ¬ (((qd (L s)).2.2 : Nat) : Int) = 0; omega)) ?_
   exact no' hm
 ·have hm : mnL (L s) = 0 := by unfold mnL; rw [if_neg (fun q => c q.1)]
  refine Ev.cong (fun k => if_neg (by simp [c])) ?_
  exact no' hm
theorem mx_nat (a b : Nat) : mx (a : Int) (b : Int) = ((max a b : Nat) : Int) := by unfold mx; split <;> omega
theorem paL_err (l : List UInt8) : (paL l).2.2 = 0 ∨ (paL l).2.2 = 3 ∨ (paL l).2.2 = 5 := by
 unfold paL
 split
 ·split
  ·exact .inr (.inr rfl)
  ·split
   ·exact .inl rfl
   ·exact .inr (.inl rfl)
 ·exact .inr (.inr rfl)
theorem ds_l0 {ls : List ByteArray} (hl : ls.length ≤ 1000000) (hp : ∀ p ∈ ls, p.size ≤ 900000) : ∀ (d j e : Nat), j + d = ls.length → (e = 0 ∨ e = 3) →
  Ev (fun k => path_domains.l0 k ls (e : Int) ls (ls.length : Int) (j : Int)) (((if (ls.drop j).any (fun p => decide ((paL (120 :: 64 :: L p)).2.2 = 5)) = true then 5 else if 8 < ls.length ∨ e = 3 ∨ (ls.drop j).any (fun p => decide ((paL (120 :: 64 :: L p)).2.2 = 3)) = true then 3 else 0 : Nat) : Nat) : Int) := by
 intro d
 induction d with
 | zero =>
  intro j e h he
  rw [List.drop_of_length_le (by omega)]
  refine Ev.eq (f := fun _ => some _) (fun k => ?_) (Ev.pure _)
  simp only [path_domains.l0]
  rw [if_neg (by omega)]
  simp only [List.any_nil, Bool.false_eq_true, if_false, or_false]
  by_cases c : 8 < ls.length
  ·rw [if_pos (by omega), if_pos (.inl c)]; rfl
  ·rw [if_neg (by omega)]
   rcases he with rfl | rfl
   ·rw [if_neg (by omega)]
   ·rw [if_pos (.inr rfl)]
 | succ d ih =>
  intro j e h he
  have hj : j < ls.length := by omega
  have ew := w1 (n := j) (m := ls.length) hj (by omega)
  have hr : rdOf ByteArray.empty ls (j : Int) = ls[j]'hj := by simp [rdOf, hj]
  have hz := hp _ (List.getElem_mem hj)
  have hLz := L_len (ls[j]'hj)
  have hpa := parse_f (s := (⟨#[120, 64]⟩ : ByteArray) ++ (ls[j]'hj)) (by rw [← L_len, L_app, List.length_append]; show 2 + (L (ls[j]'hj)).length ≤ _; omega)
  have hLp : L ((⟨#[120, 64]⟩ : ByteArray) ++ (ls[j]'hj)) = 120 :: 64 :: L (ls[j]'hj) := by rw [L_app]; rfl
  rw [hLp] at hpa
  rw [List.drop_eq_getElem_cons hj, List.any_cons, List.any_cons]
  refine Ev.eq (f := fun k => (addr_Parse.f k ((⟨#[120, 64]⟩ : ByteArray) ++ (ls[j]'hj))).bind fun bt => (if bt.2.2 = 5 then (some bt.2.2) else (path_domains.l0 k ls (mx (e : Int) bt.2.2) ls (ls.length : Int) ((j + 1 : Nat) : Int)))) (fun k => ?_) ?_
  ·simp only [path_domains.l0]
   rw [if_pos (by omega), if_pos (by omega), if_pos (by omega), hr, if_pos (by omega), ew]
  ·refine Ev.bind2 hpa ?_
   dsimp only
   rcases paL_err (120 :: 64 :: L (ls[j]'hj)) with q | q | q
   ·rw [q]
    refine Ev.cong (fun k => if_neg (by decide)) ?_
    rw [mx_nat]
    have key := ih (j + 1) (max e 0) (by omega) (by omega)
    rw [show max e 0 = e by omega] at key ⊢
    simpa using key
   ·rw [q]
    refine Ev.cong (fun k => if_neg (by decide)) ?_
    rw [mx_nat]
    have key := ih (j + 1) (max e 3) (by omega) (by omega)
    rw [show max e 3 = 3 by omega] at key ⊢
    simpa using key
   ·rw [q]
    refine Ev.cong (fun k => if_pos (by decide)) ?_
    simpa using Ev.pure (5 : Int)
theorem domains_f {ls : List (List UInt8)} (hl : ls.length ≤ 100000) (hp : ∀ p ∈ ls, p.length ≤ 100000) : Ev (fun k => path_domains.f k (ls.map B)) ((dsL ls : Nat) : Int) := by
 have key := ds_l0 (ls := ls.map B) (by rw [List.length_map]; omega) (fun p hp' => by
  obtain ⟨q, hq, rfl⟩ := List.mem_map.1 hp'
  have := hp q hq
  rw [B_size]; omega) (ls.map B).length 0 0 (by omega) (.inl rfl)
 rw [List.drop_zero] at key
 unfold path_domains.f dsL
 have e5 : (ls.map B).any (fun p => decide ((paL (120 :: 64 :: L p)).2.2 = 5)) = ls.any (fun d => decide ((paL (120 :: 64 :: d)).2.2 = 5)) := by simp [List.any_map, Function.comp_def, L_B]
 have e3 : (ls.map B).any (fun p => decide ((paL (120 :: 64 :: L p)).2.2 = 3)) = ls.any (fun d => decide ((paL (120 :: 64 :: d)).2.2 = 3)) := by simp [List.any_map, Function.comp_def, L_B]
 rw [e5, e3] at key
 rw [List.length_map] at key
 have hn : (8 < ls.length ∨ 0 = 3 ∨ ls.any (fun d => decide ((paL (120 :: 64 :: d)).2.2 = 3)) = true) ↔ (8 < ls.length ∨ ls.any (fun d => decide ((paL (120 :: 64 :: d)).2.2 = 3)) = true) := by simp
 simp only [hn] at key
 rw [List.length_map]
 exact key
def pB (x : Pth × List UInt8 × Nat) : Bool × Bool × List ByteArray × ByteArray × ByteArray × ByteArray × Int := (x.1.nul, x.1.post, x.1.route.map B, B x.1.loc, B x.1.dom, B x.2.1, (x.2.2 : Int))
theorem same_pm {x : ByteArray} (hx : x.size ≤ 70368744177) : text_Same.f x (⟨#[112, 111, 115, 116, 109, 97, 115, 116, 101, 114]⟩ : ByteArray) = some (decide (lowA (L x) = pmL)) := by
 rw [same_f hx (by decide)]
 congr 1
 rw [toL, toL, L_B, L_B]
 have e : (L (⟨#[112, 111, 115, 116, 109, 97, 115, 116, 101, 114]⟩ : ByteArray)).map lowC = pmL := by decide
 rw [e]
 rw [Bool.eq_iff_iff, beq_iff_eq, decide_eq_true_iff]; rfl
theorem long_case {x0 behind : ByteArray} {n m : Nat} (h0 : x0.size = n) (hb : behind.size = m) (hle : m ≤ n) (hn : n ≤ 100000) : (wrap64 ((x0.size : Int) - (behind.size : Int)) > 256) ↔ ¬ (n - m ≤ 256) := by
 rw [h0, hb, wk (by omega) (by omega)]; omega
theorem pj3_f {x0 : ByteArray} {l : List (List UInt8)} {one behind : List UInt8} {wrong : Nat} (hn : x0.size ≤ 100000) (hb : behind.length ≤ x0.size) (hw : wrong = 0 ∨ wrong = 3 ∨ wrong = 5) :
  Ev (fun k => path_Parse.j3 k x0 (B behind) (wrong : Int) ((paL one).2.2 : Int) (decide ((paL one).2.2 = 5 ∨ wrong = 5)) false false (l.map B) ⟨#[]⟩ ⟨#[]⟩ (B (paL one).1) (B (paL one).2.1))
   (pB (if (paL one).2.2 = 5 ∨ wrong = 5 then (noP, [], 5) else if wrong = 0 ∧ (paL one).2.2 = 0 ∧ x0.size - behind.length ≤ 256 then (⟨false, false, l, (paL one).1, (paL one).2.1⟩, behind, 0) else (noP, [], 3))) := by
 have hlong := long_case (x0 := x0) (behind := B behind) rfl (B_size behind) hb hn
 refine Ev.eq (f := fun _ => some _) (fun k => ?_) (Ev.pure _)
 simp only [path_Parse.j3]
 by_cases c : (paL one).2.2 = 5 ∨ wrong = 5
 ·rw [if_pos (decide_eq_true c), if_pos c]; rfl
 ·rw [if_neg (by simp only [decide_eq_true_eq]; exact c), if_neg c, mx_nat]
  rcases paL_err one with q | q | q
  ·rw [q]
   by_cases c2 : wrong = 0
   ·subst c2
    rw [if_pos (by decide)]
    by_cases c3 : x0.size - behind.length ≤ 256
    ·rw [if_neg (fun h => hlong.1 h c3), if_pos ⟨rfl, rfl, c3⟩]; rfl
    ·rw [if_pos (hlong.2 c3), if_neg (fun h => c3 h.2.2)]; rfl
   ·rw [if_neg (by omega), if_neg (fun h => c2 h.1)]; rfl
  ·rw [q, if_neg (by omega), if_neg (fun h => by have := h.2.1; omega)]; rfl
  ·exact absurd (.inl q) c
theorem pj2_f {x0 : ByteArray} {l : List (List UInt8)} {one behind : List UInt8} {wrong : Nat} (hn : x0.size ≤ 100000) (hb : behind.length ≤ x0.size) (hw : wrong = 0 ∨ wrong = 3 ∨ wrong = 5) (ho : one.length ≤ 100000) :
  Ev (fun k => path_Parse.j2 k x0 (B one) (B behind) (wrong : Int) false false false (l.map B) ⟨#[]⟩ ⟨#[]⟩)
   (pB (if (paL one).2.2 = 5 ∨ wrong = 5 then (noP, [], 5) else if wrong = 0 ∧ (paL one).2.2 = 0 ∧ x0.size - behind.length ≤ 256 then (⟨false, false, l, (paL one).1, (paL one).2.1⟩, behind, 0) else (noP, [], 3))) := by
 have hpa := parse_f (s := B one) (by rw [B_size]; omega)
 rw [L_B] at hpa
 have key := pj3_f (x0 := x0) (l := l) (one := one) (behind := behind) hn hb hw
 refine Ev.step (f := fun k => (addr_Parse.f k (B one)).bind fun bt233 => (if bt233.2.2 = 5 then (path_Parse.j3 k x0 (B behind) (wrong : Int) bt233.2.2 true false false (l.map B) ⟨#[]⟩ ⟨#[]⟩ bt233.1 bt233.2.1) else (path_Parse.j3 k x0 (B behind) (wrong : Int) bt233.2.2 ((wrong : Int) == 5) false false (l.map B) ⟨#[]⟩ ⟨#[]⟩ bt233.1 bt233.2.1))) (fun k => by simp only [path_Parse.j2, Bool.false_eq_true, if_false]) ?_
 refine Ev.bind2 hpa ?_
 dsimp only
 by_cases c : (paL one).2.2 = 5
 ·refine Ev.cong (fun k => if_pos (by omega)) ?_
  rw [decide_eq_true (.inl c)] at key
  exact key
 ·refine Ev.cong (fun k => if_neg (by omega)) ?_
  have e : ((wrong : Int) == 5) = decide ((paL one).2.2 = 5 ∨ wrong = 5) := by
   rw [Bool.eq_iff_iff, beq_iff_eq, decide_eq_true_iff]
   constructor
   ·intro h; exact .inr (by omega)
   ·intro h; rcases h with h | h
    ·exact absurd h c
    ·omega
  rw [e]; exact key
theorem pj1_f {x0 : ByteArray} {l : List (List UInt8)} {one behind : List UInt8} {wrong : Nat} (hn : x0.size ≤ 100000) (hb : behind.length ≤ x0.size) (hw : wrong = 0 ∨ wrong = 3 ∨ wrong = 5) (ho : one.length ≤ 100000) (hl : l.length ≤ 100000) :
  Ev (fun k => path_Parse.j1 k x0 (l.map B) (B one) (B behind) (wrong : Int) (decide (one = [] ∧ l = [])) false false (l.map B) ⟨#[]⟩ ⟨#[]⟩) (pB (fnP (x0.size - behind.length) l one behind wrong)) := by
 have hlong := long_case (x0 := x0) (behind := B behind) rfl (B_size behind) hb hn
 unfold fnP
 by_cases c : one = [] ∧ l = []
 ·rw [if_pos c, decide_eq_true c]
  refine Ev.eq (f := fun _ => some _) (fun k => ?_) (Ev.pure _)
  simp only [path_Parse.j1, if_true]
  by_cases c2 : wrong = 0
  ·subst c2
   rw [if_pos (by decide)]
   by_cases c3 : x0.size - behind.length ≤ 256
   ·rw [if_neg (fun h => hlong.1 h c3), if_pos ⟨rfl, c3⟩]; rfl
   ·rw [if_pos (hlong.2 c3), if_neg (fun h => c3 h.2)]; rfl
  ·rw [if_neg (by omega), if_neg (fun h => c2 h.1)]; rfl
 ·rw [if_neg c, decide_eq_false c]
  have hs := same_pm (x := B one) (by rw [B_size]; omega)
  rw [L_B] at hs
  have hl0 : (((l.map B).length : Int) == 0) = decide (l = []) := by
   rw [Bool.eq_iff_iff, beq_iff_eq, decide_eq_true_iff, List.length_map]
   constructor
   ·intro h; exact List.length_eq_zero_iff.1 (by omega)
   ·intro h; rw [h]; rfl
  by_cases c2 : lowA one = pmL ∧ l = []
  ·rw [if_pos c2]
   refine Ev.eq (f := fun k => path_Parse.j2 k x0 (B one) (B behind) (wrong : Int) true false false (l.map B) ⟨#[]⟩ ⟨#[]⟩) (fun k => ?_) ?_
   ·simp only [path_Parse.j1, Bool.false_eq_true, if_false]
    rw [hs, Option.bind_some, if_pos (decide_eq_true c2.1), hl0, decide_eq_true c2.2]
   ·refine Ev.eq (f := fun _ => some _) (fun k => ?_) (Ev.pure _)
    simp only [path_Parse.j2, if_true]
    by_cases c3 : wrong = 0
    ·subst c3
     rw [if_pos (by decide)]
     by_cases c4 : x0.size - behind.length ≤ 256
     ·rw [if_neg (fun h => hlong.1 h c4), if_pos ⟨rfl, c4⟩]; rfl
     ·rw [if_pos (hlong.2 c4), if_neg (fun h => c4 h.2)]; rfl
    ·rw [if_neg (by omega), if_neg (fun h => c3 h.1)]; rfl
  ·rw [if_neg c2]
   refine Ev.eq (f := fun k => path_Parse.j2 k x0 (B one) (B behind) (wrong : Int) false false false (l.map B) ⟨#[]⟩ ⟨#[]⟩) (fun k => ?_) (pj2_f hn hb hw ho)
   simp only [path_Parse.j1, Bool.false_eq_true, if_false]
   rw [hs, Option.bind_some]
   by_cases c3 : lowA one = pmL
   ·rw [if_pos (decide_eq_true c3), hl0, decide_eq_false (fun h => c2 ⟨c3, h⟩)]
   ·rw [if_neg (by simpa using c3)]
theorem dsL_vals (ls : List (List UInt8)) : dsL ls = 0 ∨ dsL ls = 3 ∨ dsL ls = 5 := by
 unfold dsL
 split
 ·exact .inr (.inr rfl)
 ·split
  ·exact .inr (.inl rfl)
  ·exact .inl rfl
theorem rt_small (l : List UInt8) : (rtL l).1.length ≤ l.length + 1 ∧ (∀ p ∈ (rtL l).1, p.length ≤ l.length) ∧ (rtL l).2.1.length ≤ l.length := by
 have hc := cut_le l
 unfold rtL
 split
 ·split
  ·split
   ·refine ⟨?_, fun p hp => ?_, hc.2⟩
    ·rw [List.length_map]
     have := sp_len 44 (Lib.cut l [58]).1 []
     omega
    ·obtain ⟨q, hq, rfl⟩ := List.mem_map.1 hp
     have := sp_small 44 (Lib.cut l [58]).1 [] q hq
     simp only [List.length_nil, List.length_tail] at this ⊢
     omega
   ·exact ⟨by simp, fun p hp => by (simp at hp), by simp⟩
  ·exact ⟨by simp, fun p hp => by (simp at hp), by simp⟩
 ·exact ⟨by simp, fun p hp => by (simp at hp), Nat.le_refl _⟩
theorem pj0_no {x0 x8 : ByteArray} {l : List ByteArray} {n : Int} : Ev (fun k => path_Parse.j0 k x0 l x8 n true) (pB (noP, [], 5)) :=
 Ev.eq (f := fun _ => some _) (fun k => by simp only [path_Parse.j0, if_true]; rfl) (Ev.pure _)
theorem ppath_f {s : ByteArray} (hs : s.size ≤ 10000) : Ev (fun k => path_Parse.f k s) (pB (psL (L s))) := by
 have hL := L_len s
 unfold path_Parse.f psL
 refine Ev.bindc (cutP1 60 (by omega)) ?_
 by_cases c : (L s).head? = some 60
 ·rw [if_pos c, if_pos c]
  refine Ev.cong (fun k => if_pos rfl) ?_
  dsimp only
  have htl : (L s).tail.length ≤ s.size := by rw [List.length_tail]; omega
  obtain ⟨inner, hin⟩ : ∃ t, t = (L s).tail := ⟨_, rfl⟩
  rw [← hin] at htl ⊢
  have hrt := route_f (s := B inner) (by rw [B_size]; omega)
  rw [L_B] at hrt
  refine Ev.bind2 hrt ?_
  obtain ⟨r1, r2, r3⟩ := rt_small inner
  generalize hl : (rtL inner).1 = l at *
  generalize hrr : (rtL inner).2.1 = rt at *
  generalize hii : (rtL inner).2.2 = is_ at *
  have hen := ends_f (s := B rt) (by rw [B_size]; omega)
  rw [L_B] at hen
  refine Ev.bind2 hen ?_
  dsimp only
  cases is_ with
  | false =>
   refine Ev.cong (fun k => if_neg (by decide)) ?_
   rw [if_neg (fun h => by cases h.1)]
   exact pj0_no
  | true =>
   refine Ev.cong (fun k => if_pos rfl) ?_
   by_cases c2 : 0 ≤ enL rt
   ·rw [if_pos ⟨rfl, c2⟩, decide_eq_false (by omega)]
    have hlt := en_lt c2
    obtain ⟨n, hn⟩ : ∃ n : Nat, enL rt = (n : Int) := ⟨(enL rt).toNat, by omega⟩
    rw [hn] at hlt ⊢
    rw [Int.toNat_natCast] at hlt ⊢
    have hbl : (rt.drop (n + 1)).length = rt.length - (n + 1) := List.length_drop
    have htk : (rt.take n).length = n := by rw [List.length_take]; omega
    have hE : (B rt).extract ((n + 1 : Nat) : Int).toNat (B rt).size = B (rt.drop (n + 1)) := by
     rw [Int.toNat_natCast, ext_B, B_size, L_B, List.take_of_length_le (by rw [List.length_drop]; omega)]
    have hT : (B rt).extract 0 ((n : Nat) : Int).toNat = B (rt.take n) := by rw [Int.toNat_natCast, ext_B, L_B, List.drop_zero, Nat.sub_zero]
    have key := pj1_f (x0 := s) (l := l) (one := rt.take n) (behind := rt.drop (n + 1)) (wrong := dsL l) (by omega) (by omega) (dsL_vals l) (by omega) (by omega)
    have hdm := domains_f (ls := l) (by omega) (fun p hp => by have := r2 p hp; omega)
    have q1 : (0 : Int) ≤ (n : Int) := by omega
    have q2 : (n : Int) ≤ ((B rt).size : Int) := by rw [B_size]; omega
    have q3 : (0 : Int) ≤ ((n + 1 : Nat) : Int) := by omega
    have q4 : ((n + 1 : Nat) : Int) ≤ ((B rt).size : Int) := by rw [B_size]; omega
    have ew : wrap64 ((n : Int) + 1) = ((n + 1 : Nat) : Int) := by rw [wk (by omega) (by omega)]; omega
    rw [hL]
    refine Ev.eq (f := fun k => (path_domains.f k (l.map B)).bind fun t231 => path_Parse.j1 k s (l.map B) (B (rt.take n)) (B (rt.drop (n + 1))) t231 (decide (rt.take n = [] ∧ l = [])) false false (l.map B) ⟨#[]⟩ ⟨#[]⟩) (fun k => ?_) (by
     refine Ev.bind2 hdm ?_
     exact key)
    simp only [path_Parse.j0, Bool.false_eq_true, if_false]
    rw [if_pos q1, if_pos q2, ew, if_pos q3, if_pos q4, hE, hT, toL, L_B]
    congr 1
    funext t231
    have hl0 : (((l.map B).length : Int) == 0) = decide (l = []) := by
     rw [Bool.eq_iff_iff, beq_iff_eq, decide_eq_true_iff, List.length_map]
     clear ew
     constructor
     ·intro h; exact List.length_eq_zero_iff.1 (by omega)
     ·intro h; rw [h]; rfl
    by_cases c3 : rt.take n = []
    ·rw [if_pos c3, hl0, c3]
     congr 1
     simp
    ·rw [if_neg c3, decide_eq_false (fun h => c3 h.1)]
   ·rw [if_neg (fun h => c2 h.2), decide_eq_true (by omega)]
    exact pj0_no
 ·rw [if_neg c, if_neg c]
  refine Ev.cong (fun k => if_neg (by simp)) ?_
  exact Ev.pure _
theorem ptext_f {nul post : Bool} {l : List ByteArray} {x y : ByteArray} (hx : x.size ≤ 1000000) (hy : y.size ≤ 1000000) : Ev (fun k => path_Path_Text.f k nul post l x y) (B (tpL ⟨nul, post, [], L x, L y⟩)) := by
 have hLx := L_len x
 have hLy := L_len y
 have ht := tx_len (L x) (L y)
 unfold path_Path_Text.f tpL
 cases nul
 ·cases post
  ·refine Ev.cong (fun k => if_neg (by decide)) (Ev.cong (fun k => if_neg (by decide)) ?_)
   rw [if_neg (by simp), if_neg (by simp)]
   refine Ev.bindc (may_f hx hy) ?_
   by_cases hm : mayB (L x) (L y) = true
   ·refine Ev.cong (fun k => if_pos hm) ?_
    dsimp only
    rw [if_pos hm]
    refine Ev.bind2 (atext_f hx hy) ?_
    have e60 : (⟨#[60]⟩ : ByteArray) = B [60] := rfl
    have e62 : (⟨#[62]⟩ : ByteArray) = B [62] := rfl
    refine Ev.cong (fun k => if_pos (by rw [B_size]; omega)) ?_
    refine Ev.cong (fun k => if_pos (by rw [e60, B_app, B_size]; simp only [List.length_append, List.length_cons, List.length_nil]; omega)) ?_
    rw [e60, e62, B_app, B_app]
    exact Ev.pure _
   ·refine Ev.cong (fun k => if_neg hm) ?_
    dsimp only
    rw [if_neg hm]
    exact Ev.pure _
  ·refine Ev.cong (fun k => if_neg (by decide)) (Ev.cong (fun k => if_pos rfl) ?_)
   exact Ev.pure _
 ·refine Ev.cong (fun k => if_pos rfl) ?_
  exact Ev.pure _
end Go.Proofs.YtgelfnjicglmbaaGreatDoor.S
