/- Of any text (its first 60 bytes): the stamp and the date that the program reads of it, and what is wrong, are the document's. -/
import Derived.Test.YtoigafnaoaafeaaGreatDoorPG
import Derived.Test.YtoigafnaoaafeaaGreatDoorPA
import Derived.Test.YtoigafnaoaafeaaGreatDoorQx0
import Derived.Test.YtoigafnaoaafeaaGreatDoorQx7
namespace Go.Proofs.YtoigafnaoaafeaaGreatDoor.Pure
open Go.RowKit Go.Proofs.YtoigafnaoaafeaaGreatDoor.Q Go.Proofs.YtoigafnaoaafeaaGreatDoor.S Go.Proofs.YtoigafnaoaafeaaGreatDoorW.PrintWords Go.Proofs.YtoigafnaoaafeaaGreatDoorW.PrintLast Go.Proofs.YtoigafnaoaafeaaGreatDoorW.PrintMore
set_option linter.unusedVariables false
set_option linter.unusedSimpArgs false
theorem value_f (c : UInt8) : Ev (fun k => postriderref09_value.f k (c.toNat : Int)) (vL c) :=
  Ev.of (k := 4) (fun k => postriderref09_value.mono (c.toNat : Int) k) (byte_all (p := fun c => postriderref09_value.f 4 (c.toNat : Int) = some (vL c)) (by decide +kernel) c)
theorem vL_range (c : UInt8) : -1 ≤ vL c ∧ vL c < 32 := byte_all (p := fun c => -1 ≤ vL c ∧ vL c < 32) (by decide +kernel) c
theorem ref_parse_f (s : ByteArray) : Ev (fun k => postriderref09_Parse.f k s) (prS (L s)) := by
  have hl := L_len s
  have hbad : Ev (fun k => postriderref09_Parse.j0 k s true) (0, 5) := Ev.eq (f := fun _ => some _) (fun k => by simp only [postriderref09_Parse.j0, if_true]) (Ev.pure _)
  unfold postriderref09_Parse.f
  by_cases h : s.size = 2
  · obtain ⟨a, b, e⟩ := two_of (l := L s) (by omega)
    have ba : bt s 0 = (a.toNat : Int) := bt_of (n := 0) (l := [b]) (by rw [e]; rfl)
    have bb : bt s 1 = (b.toNat : Int) := bt_of (n := 1) (l := []) (by rw [e]; rfl)
    have ra := vL_range a
    have rb := vL_range b
    simp only [if_pos (show (s.size : Int) = 2 by omega), if_pos (show (0 : Int) < (s.size : Int) by omega), if_pos (show (1 : Int) < (s.size : Int) by omega), ba, bb]
    refine Ev.bind2 (value_f a) ?_
    rw [e]
    unfold prS
    simp only []
    by_cases c1 : vL a < 0
    · simp only [if_pos c1]; exact hbad
    · simp only [if_neg c1]
      refine Ev.bind2 (value_f b) ?_
      by_cases c2 : vL b < 0
      · simp only [if_pos c2, decide_eq_true c2]; exact hbad
      · simp only [if_neg c2, decide_eq_false c2]
        refine Ev.eq (f := fun k => (postriderref09_value.f k (a.toNat : Int)).bind fun t105 => ((postriderref09_value.f k (b.toNat : Int)).bind fun t106 => (some (wrap64 ((wrap64 (32 * t105)) + t106), 0)))) (fun k => ?_) (Ev.bind2 (value_f a) (Ev.bind2 (value_f b) ?_))
        · simp only [postriderref09_Parse.j0, Bool.false_eq_true, if_false]
          rw [if_pos (by omega), ba]
          simp only [if_pos (show (1 : Int) < (s.size : Int) by omega), bb]
        · rw [wk (x := 32 * vL a) (by omega) (by omega), wk (by omega) (by omega)]
          exact Ev.pure _
  · simp only [if_neg (show ¬ (s.size : Int) = 2 by omega)]
    have e : prS (L s) = (0, 5) := by
      have hn : (L s).length ≠ 2 := by omega
      generalize L s = l at hn
      match l, hn with
      | [], _ => rfl
      | [a], _ => rfl
      | [a, b], h => exact absurd rfl h
      | a :: b :: c :: t, _ => rfl
    rw [e]
    exact hbad
theorem StampReads : postriderlaw09_StampReads.Pure := by
  intro s hs
  have hm := mn_le (s.size : Int) 60
  apply Ev.to
  unfold postriderlaw09_StampReads.f
  have e0 : s.extract 0 ((mn (s.size : Int) 60) : Int).toNat = B ((L s).take 60) := firsts s 60
  simp only [if_pos (show 0 ≤ mn (s.size : Int) 60 by omega), if_pos (show mn (s.size : Int) 60 ≤ (s.size : Int) by omega), e0]
  obtain ⟨l, hl⟩ : ∃ l, l = (L s).take 60 := ⟨_, rfl⟩
  rw [← hl]
  have hlen : l.length ≤ 1000 := by rw [hl, List.length_take]; omega
  refine Ev.bind2 (parse_f (B l)) (Ev.bind2 (ref_parse_f (B l)) ?_)
  obtain ⟨c1, c2⟩ := code_f l hlen
  obtain ⟨r1, r2⟩ := ref_f l hlen
  obtain ⟨X, hX1, hX2⟩ : ∃ X, Ev (fun k => stamp_ParseDate.f k (B l)) X ∧ Ev (fun k => postriderref09_ParseDate.f k (B l)) X := by
    by_cases h : ∃ p : Pc, p.Ok ∧ l = p.txt
    · obtain ⟨p, ok, e⟩ := h
      exact ⟨_, c1 p ok e, r1 p ok e⟩
    · exact ⟨_, c2 (fun p ok e => h ⟨p, ok, e⟩), r2 (fun p ok e => h ⟨p, ok, e⟩)⟩
  refine Ev.bind2 hX1 (Ev.bind2 hX2 ?_)
  simp only [if_true]
  exact Ev.bind2 wakes_f (Ev.pure _)
end Go.Proofs.YtoigafnaoaafeaaGreatDoor.Pure
