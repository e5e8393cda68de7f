/- There and back: a path is read of its text, whatever stands behind; whatever is read of a text is a path and what stood behind, and has a text that is read as the same, but for the route. -/
import Derived.Test.YtgelfnjicglmbaaGreatDoorPX
import Derived.Test.YtgelfnjicglmbaaGreatDoorQx12
import Derived.Test.YtgelfnjicglmbaaGreatDoorQx13
import Derived.Test.YtgelfnjicglmbaaGreatDoorQx0
import Derived.Test.YtgelfnjicglmbaaGreatDoorQx7
namespace Go.Proofs.YtgelfnjicglmbaaGreatDoor.Pure
open Go.RowKit Go.Proofs.YtgelfnjicglmbaaGreatDoor.Q Go.Proofs.YtgelfnjicglmbaaGreatDoor.S Go.Proofs.YtgelfnjicglmbaaGreatDoorW.PrintWords Go.Proofs.YtgelfnjicglmbaaGreatDoorW.PrintLast Go.Proofs.YtgelfnjicglmbaaGreatDoorW.PrintMore
set_option linter.unusedVariables false
set_option linter.unusedSimpArgs false
set_option maxRecDepth 100000 in
theorem tells_t : Ev (fun k => postriderlaw06_tells.f k) true := Ev.of postriderlaw06_tells.mono (k := 60) (by decide +kernel)
theorem like_l0 {r : List ByteArray} (hl : r.length ≤ 1000000) {n p n2 p2 : Bool} {a b a2 b2 : ByteArray} : ∀ (d j : Nat), j + d = r.length → Ev (fun k => postriderlaw06_Like.l0 k (j : Int) n p r a b n2 p2 r a2 b2) true := by
 intro d
 induction d with
 | zero =>
  intro j h
  refine Ev.eq (f := fun _ => some _) (fun k => ?_) (Ev.pure _)
  simp only [postriderlaw06_Like.l0]
  rw [if_neg (by omega)]
 | succ d ih =>
  intro j h
  have hj : j < r.length := by omega
  have ew := w1 (n := j) (m := r.length) hj (by omega)
  refine Ev.eq (f := fun k => postriderlaw06_Like.l0 k ((j + 1 : Nat) : Int) n p r a b n2 p2 r a2 b2) (fun k => ?_) (ih (j + 1) (by omega))
  simp only [postriderlaw06_Like.l0]
  rw [if_pos (by omega), if_pos (by omega), if_pos (by omega), ew]
  simp only [if_true]
theorem like_f {r : List ByteArray} (hl : r.length ≤ 1000000) (n p : Bool) (a b : ByteArray) : Ev (fun k => postriderlaw06_Like.f k n p r a b n p r a b) true := by
 unfold postriderlaw06_Like.f
 refine Ev.cong (fun k => if_neg (by simp)) (Ev.cong (fun k => if_neg (by simp)) (Ev.cong (fun k => if_neg (by simp)) ?_))
 refine Ev.eq (f := fun k => postriderlaw06_Like.l0 k ((0 : Nat) : Int) n p r a b n p r a b) (fun k => ?_) (like_l0 hl r.length 0 (by omega))
 simp only [postriderlaw06_Like.j0]
 rw [if_neg (by simp)]
 rfl
theorem suffix_f {s t : ByteArray} (hs : s.size ≤ 70368744177) {a : List UInt8} (h : L s = a ++ L t) : strings_HasSuffix.f s t = some true := by
 have h1 := L_len s
 have h2 := L_len t
 rw [h, List.length_append] at h1
 unfold strings_HasSuffix.f stringslite_HasSuffix.f
 have e : (L s).drop (s.size - t.size) = L t := by
  rw [h, show s.size - t.size = a.length by omega, List.drop_left]
 have e2 : s.extract (s.size - t.size) s.size = t := L_inj (by rw [L_ext_end, e])
 have ew : wrap64 ((s.size : Int) - (t.size : Int)) = ((s.size - t.size : Nat) : Int) := by rw [wk (by omega) (by omega)]; omega
 rw [if_pos (by omega), ew, if_pos (by omega), if_pos (by omega), Int.toNat_natCast, e2]
 simp
theorem end_f {x : ByteArray} (hx : x.size ≤ 300) {k2 : List S26} {n : Int} (hn : n = (k2.length : Int)) :
  Ev (fun k => (path_Parse.f k x).bind fun bt415 => (if bt415.2.2.2.2.2.2 = 0 then ((path_Path_Text.f k bt415.1 bt415.2.1 bt415.2.2.1 bt415.2.2.2.1 bt415.2.2.2.2.1).bind fun t441 => ((path_Parse.f k t441).bind fun bt442 => ((strings_HasSuffix.f x bt415.2.2.2.2.2.1).bind fun t452 => (if t452 = true then (if (bt415.2.2.2.2.2.1.size : Int) < (wrap64 ((x.size : Int) - 1)) then (if bt442.2.2.2.2.2.2 = 0 then (if bt442.2.2.2.2.2.1.toList = ([] : List UInt8) then ((postriderlaw06_Of.f bt442.1 bt442.2.1 bt442.2.2.1 bt442.2.2.2.1 bt442.2.2.2.2.1).bind fun bt453 => ((postriderlaw06_Of.f bt415.1 bt415.2.1 ([] : List ByteArray) bt415.2.2.2.1 bt415.2.2.2.2.1).bind fun bt460 => ((postriderlaw06_Like.f k bt453.1 bt453.2.1 bt453.2.2.1 bt453.2.2.2.1 bt453.2.2.2.2 bt460.1 bt460.2.1 bt460.2.2.1 bt460.2.2.2.1 bt460.2.2.2.2).bind fun t467 => (if t467 = true then ((postriderlaw06_tells.f k).bind fun t468 => (some t468)) else (some false))))) else (some false)) else (some false)) else (some false)) else (some false))))) else ((postriderlaw06_Of.f bt415.1 bt415.2.1 bt415.2.2.1 bt415.2.2.2.1 bt415.2.2.2.2.1).bind fun bt425 => ((postriderlaw06_Of.f false false ([] : List ByteArray) (⟨#[]⟩ : ByteArray) (⟨#[]⟩ : ByteArray)).bind fun bt432 => ((postriderlaw06_Like.f k bt425.1 bt425.2.1 bt425.2.2.1 bt425.2.2.2.1 bt425.2.2.2.2 bt432.1 bt432.2.1 bt432.2.2.1 bt432.2.2.2.1 bt432.2.2.2.2).bind fun t439 => (if t439 = true then (if bt415.2.2.2.2.2.1.toList = ([] : List UInt8) then ((postriderlaw06_tells.f k).bind fun t440 => (some t440)) else (some false)) else (some false))))))) true := by
 have hL := L_len x
 refine Ev.bind2 (ppath_f (by omega)) ?_
 obtain ⟨p, r, e, hp⟩ : ∃ p r e, psL (L x) = (p, r, e) := ⟨_, _, _, rfl⟩
 rw [hp]
 dsimp only [pB]
 rcases ps_ok hp with ⟨h1, rfl, rfl⟩ | ⟨rfl, ⟨a, ha⟩, h3, h4⟩
 ·refine Ev.cong (fun k => if_neg (by omega)) ?_
  refine Ev.bindc (a := (false, false, ([] : List ByteArray), (⟨#[]⟩ : ByteArray), (⟨#[]⟩ : ByteArray))) rfl ?_
  refine Ev.bindc (a := (false, false, ([] : List ByteArray), (⟨#[]⟩ : ByteArray), (⟨#[]⟩ : ByteArray))) rfl ?_
  refine Ev.bind2 (like_f (by simp) _ _ _ _) ?_
  refine Ev.cong (fun k => if_pos rfl) ?_
  refine Ev.cong (fun k => if_pos (by rw [toL]; rfl)) ?_
  exact Ev.bind2 tells_t (Ev.pure _)
 ·refine Ev.cong (fun k => if_pos (by decide)) ?_
  have hrl : r.length < 300 := by omega
  obtain ⟨nul, post, route, loc, dom⟩ := p
  have hsz : loc.length ≤ 64 ∧ dom.length ≤ 300 := by
   have key := ps_small hp
   dsimp only at key
   omega
  have ht := ptext_f (nul := nul) (post := post) (l := route.map B) (x := B loc) (y := B dom) (by rw [B_size]; omega) (by rw [B_size]; omega)
  rw [L_B, L_B] at ht
  refine Ev.bind2 ht ?_
  have et : tpL ⟨nul, post, route, loc, dom⟩ = tpL ⟨nul, post, [], loc, dom⟩ := rfl
  rw [et] at h4
  have htl := tx_len loc dom
  have htz : (tpL ⟨nul, post, [], loc, dom⟩).length ≤ 10000 := by
   unfold tpL
   split
   ·simp
   ·split
    ·simp
    ·split
     ·dsimp only
      simp only [List.length_cons, List.length_append, List.length_nil]; omega
     ·simp
  have hpp := ppath_f (s := B (tpL ⟨nul, post, [], loc, dom⟩)) (by rw [B_size]; omega)
  rw [L_B, h4] at hpp
  refine Ev.bind2 hpp ?_
  dsimp only [pB]
  refine Ev.bindc (suffix_f (a := a) (by omega) (by rw [L_B]; exact ha.symm)) ?_
  refine Ev.cong (fun k => if_pos rfl) ?_
  refine Ev.cong (fun k => if_pos (by rw [B_size, wk (by omega) (by omega)]; omega)) ?_
  refine Ev.cong (fun k => if_pos (by decide)) ?_
  refine Ev.cong (fun k => if_pos (by rw [toL, L_B])) ?_
  refine Ev.bindc (a := (nul, post, ([] : List ByteArray), B loc, B dom)) rfl ?_
  refine Ev.bindc (a := (nul, post, ([] : List ByteArray), B loc, B dom)) rfl ?_
  refine Ev.bind2 (like_f (by simp) _ _ _ _) ?_
  refine Ev.cong (fun k => if_pos rfl) ?_
  exact Ev.bind2 tells_t (Ev.pure _)
def two : List S26 := [⟨true, false, [], ⟨⟨#[]⟩, ⟨#[]⟩⟩⟩, ⟨false, true, [], ⟨⟨#[]⟩, ⟨#[]⟩⟩⟩]
theorem two_f {x : ByteArray} (hx : x.size ≤ 300) : Ev (fun k => postriderlaw06_PathBack.j0 k x) true := by
 have hL := L_len x
 have hp0 := ppath_f (s := B [60, 62] ++ x) (by rw [← L_len, L_app, L_B, List.length_append, hL]; simp only [List.length_cons, List.length_nil]; omega)
 have hp1 := ppath_f (s := B [60, 80, 111, 115, 116, 109, 97, 115, 116, 101, 114, 62] ++ x) (by rw [← L_len, L_app, L_B, List.length_append, hL]; simp only [List.length_cons, List.length_nil]; omega)
 rw [L_app, L_B, ps_null] at hp0
 rw [L_app, L_B, ps_post] at hp1
 have ht0 := ptext_f (nul := true) (post := false) (l := []) (x := ⟨#[]⟩) (y := ⟨#[]⟩) (by decide) (by decide)
 have ht1 := ptext_f (nul := false) (post := true) (l := []) (x := ⟨#[]⟩) (y := ⟨#[]⟩) (by decide) (by decide)
 refine Ev.eq (f := fun k => postriderlaw06_PathBack.l0 k x two 2 0) (fun k => by simp only [postriderlaw06_PathBack.j0, Option.bind_some]; rfl) ?_
 have e0 : rd_T26 two 0 = ⟨true, false, [], ⟨⟨#[]⟩, ⟨#[]⟩⟩⟩ := rfl
 have e1 : rd_T26 two 1 = ⟨false, true, [], ⟨⟨#[]⟩, ⟨#[]⟩⟩⟩ := rfl
 have hl2 : (two.length : Int) = 2 := rfl
 have last : Ev (fun k => postriderlaw06_PathBack.l0 k x two 2 2) true := by
  refine Ev.step (fun k => ?_) (end_f hx (k2 := two) (n := 2) rfl)
  simp only [postriderlaw06_PathBack.l0]
  rw [if_neg (by decide)]
 have second : Ev (fun k => postriderlaw06_PathBack.l0 k x two 2 1) true := by
  refine Ev.step (fun k => by simp only [postriderlaw06_PathBack.l0]; rw [if_pos (by decide), if_pos (by decide), if_pos (by rw [hl2]; decide), e1]) ?_
  dsimp only
  refine Ev.bind2 ht1 ?_
  refine Ev.cong (fun k => if_pos (by rw [B_size]; show 12 + x.size ≤ _; omega)) ?_
  refine Ev.bind2 hp1 ?_
  dsimp only [pB]
  refine Ev.cong (fun k => if_pos (by decide)) ?_
  refine Ev.cong (fun k => if_pos (by rw [B_L])) ?_
  refine Ev.bindc (a := (false, true, ([] : List ByteArray), (⟨#[]⟩ : ByteArray), (⟨#[]⟩ : ByteArray))) rfl ?_
  refine Ev.bindc (a := (false, true, ([] : List ByteArray), (⟨#[]⟩ : ByteArray), (⟨#[]⟩ : ByteArray))) rfl ?_
  refine Ev.bind2 (like_f (by simp) _ _ _ _) ?_
  rw [show wrap64 (1 + 1) = 2 from wk (by omega) (by omega)]
  exact Ev.cong (fun k => if_pos rfl) last
 refine Ev.step (fun k => by simp only [postriderlaw06_PathBack.l0]; rw [if_pos (by decide), if_pos (by decide), if_pos (by rw [hl2]; decide), e0]) ?_
 dsimp only
 refine Ev.bind2 ht0 ?_
 refine Ev.cong (fun k => if_pos (by rw [B_size]; show 2 + x.size ≤ _; omega)) ?_
 refine Ev.bind2 hp0 ?_
 dsimp only [pB]
 refine Ev.cong (fun k => if_pos (by decide)) ?_
 refine Ev.cong (fun k => if_pos (by rw [B_L])) ?_
 refine Ev.bindc (a := (true, false, ([] : List ByteArray), (⟨#[]⟩ : ByteArray), (⟨#[]⟩ : ByteArray))) rfl ?_
 refine Ev.bindc (a := (true, false, ([] : List ByteArray), (⟨#[]⟩ : ByteArray), (⟨#[]⟩ : ByteArray))) rfl ?_
 refine Ev.bind2 (like_f (by simp) _ _ _ _) ?_
 rw [show wrap64 (0 + 1) = 1 from wk (by omega) (by omega)]
 exact Ev.cong (fun k => if_pos rfl) second
theorem PathBack : postriderlaw06_PathBack.Pure := by
 intro a b s ha hb hs
 have m0 := mn_le (a.size : Int) 300
 have m1 := mn_le (b.size : Int) 300
 have m2 := mn_le (s.size : Int) 300
 have k1 : 0 ≤ mn (a.size : Int) 300 := by omega
 have k2 : mn (a.size : Int) 300 ≤ (a.size : Int) := by omega
 have k3 : 0 ≤ mn (b.size : Int) 300 := by omega
 have k4 : mn (b.size : Int) 300 ≤ (b.size : Int) := by omega
 have k5 : 0 ≤ mn (s.size : Int) 300 := by omega
 have k6 : mn (s.size : Int) 300 ≤ (s.size : Int) := by omega
 apply Ev.to
 unfold postriderlaw06_PathBack.f
 simp only [if_pos k1, if_pos k2, if_pos k3, if_pos k4, if_pos k5, if_pos k6]
 obtain ⟨x, hx⟩ : ∃ x, x = a.extract 0 ((mn (a.size : Int) 300) : Int).toNat := ⟨_, rfl⟩
 obtain ⟨y, hy⟩ : ∃ y, y = b.extract 0 ((mn (b.size : Int) 300) : Int).toNat := ⟨_, rfl⟩
 obtain ⟨z, hz⟩ : ∃ z, z = s.extract 0 ((mn (s.size : Int) 300) : Int).toNat := ⟨_, rfl⟩
 have hxz : x.size ≤ 300 := by rw [hx, ← L_len, L_ext, List.length_take]; omega
 have hyz : y.size ≤ 300 := by rw [hy, ← L_len, L_ext, List.length_take]; omega
 have hzz : z.size ≤ 300 := by rw [hz, ← L_len, L_ext, List.length_take]; omega
 rw [← hx, ← hy, ← hz]
 clear hx hy hz k1 k2 k3 k4 k5 k6 m0 m1 m2
 have hLx := L_len x
 have hLy := L_len y
 have hLz := L_len z
 have ht := tx_len (L x) (L y)
 refine Ev.bind2 (ptext_f (by omega) (by omega)) ?_
 refine Ev.bindc (may_f (by omega) (by omega)) ?_
 by_cases hm : mayB (L x) (L y) = true
 ·refine Ev.cong (fun k => if_pos hm) ?_
  have et : tpL ⟨false, false, [], L x, L y⟩ = 60 :: (txA (L x) (L y) ++ [62]) := by unfold tpL; rw [if_neg (by simp), if_neg (by simp), if_pos hm]
  rw [et]
  have hlen : (60 :: (txA (L x) (L y) ++ [62])).length = (txA (L x) (L y)).length + 2 := by simp only [List.length_cons, List.length_append, List.length_nil]
  refine Ev.cong (fun k => if_pos (by rw [B_size, hlen]; omega)) ?_
  have hp := ppath_f (s := B (60 :: (txA (L x) (L y) ++ [62])) ++ z) (by rw [← L_len, L_app, L_B, List.length_append, hLz, hlen]; omega)
  rw [L_app, L_B, ps_text hm] at hp
  by_cases hc : (txA (L x) (L y)).length + 2 ≤ 256
  ·rw [if_pos hc] at hp
   refine Ev.bind2 hp ?_
   dsimp only [pB]
   refine Ev.cong (fun k => if_neg (by rw [B_size, hlen]; omega)) ?_
   refine Ev.cong (fun k => if_pos (by decide)) ?_
   refine Ev.cong (fun k => if_pos (by rw [B_L])) ?_
   refine Ev.bindc (a := (false, false, ([] : List ByteArray), B (L x), B (L y))) rfl ?_
   refine Ev.bindc (a := (false, false, ([] : List ByteArray), x, y)) rfl ?_
   dsimp only
   rw [B_L, B_L]
   refine Ev.bind2 (like_f (by simp) _ _ _ _) ?_
   exact Ev.cong (fun k => if_pos rfl) (two_f hzz)
  ·rw [if_neg hc] at hp
   refine Ev.bind2 hp ?_
   dsimp only [pB]
   refine Ev.cong (fun k => if_pos (by rw [B_size, hlen]; omega)) ?_
   refine Ev.cong (fun k => if_pos (by decide)) ?_
   exact Ev.bind2 tells_t (Ev.pure _)
 ·refine Ev.cong (fun k => if_neg hm) ?_
  have et : tpL ⟨false, false, [], L x, L y⟩ = [] := by unfold tpL; rw [if_neg (by simp), if_neg (by simp), if_neg hm]
  rw [et]
  exact Ev.cong (fun k => if_pos (by rw [toL, L_B])) (two_f hzz)
end Go.Proofs.YtgelfnjicglmbaaGreatDoor.Pure
