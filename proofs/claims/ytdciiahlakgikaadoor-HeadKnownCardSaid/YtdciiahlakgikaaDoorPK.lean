/- The document's example; texts that are none; folds; lengths: what the functions tell of them. -/
import Derived.Test.YtdciiahlakgikaaDoorHB
import Derived.Test.YtdciiahlakgikaaDoorWK
import Derived.Test.YtdciiahlakgikaaDoorQx5
namespace Go.Proofs.YtdciiahlakgikaaDoor.Pure
open Go.RowKit Go.Proofs.YtdciiahlakgikaaDoor.Q Go.Proofs.YtdciiahlakgikaaDoor.S Go.Proofs.YtdciiahlakgikaaDoorW.PrintWords Go.Proofs.YtdciiahlakgikaaDoorW.PrintLast Go.Proofs.YtdciiahlakgikaaDoorW.PrintMore
set_option linter.unusedVariables false
set_option linter.unusedSimpArgs false
/-! ### Long fields -/
theorem rep_repl (c : UInt8) (n : Nat) : Lib.repeatL [c] n = List.replicate n c := by
  have := Lib.repeatL_replicate c 1 n
  simpa using this
theorem rep_f (c : UInt8) (n : Nat) (h : n ≤ 100000) : strings_Repeat.f (⟨#[c]⟩ : ByteArray) (n : Int) = some (B (List.replicate n c)) := by
  unfold strings_Repeat.f
  have hs : (⟨#[c]⟩ : ByteArray).size = 1 := rfl
  rw [if_pos ⟨by omega, by omega, by rw [hs]; omega⟩]
  show some (B (Lib.repeatL [c] ((n : Int).toNat))) = _
  rw [Int.toNat_natCast, rep_repl]
theorem rep_rg (n : Nat) : rgL (List.replicate n (120 : UInt8)) = true := List.all_eq_true.2 (fun c hc => by rw [List.eq_of_mem_replicate hc]; decide)
theorem rep_rgy (n : Nat) : rgL (List.replicate n (121 : UInt8)) = true := List.all_eq_true.2 (fun c hc => by rw [List.eq_of_mem_replicate hc]; decide)
theorem long_L (n : Nat) : L (hkLong n) = flat [97 :: 58 :: 32 :: List.replicate n 120] := by
  unfold hkLong hkY hkX
  rw [L_app, L_app]
  show [97, 58, 32] ++ Lib.repeatL [120] n ++ [13, 10] = _
  rw [rep_repl]
  simp [flat]
theorem long_ok : Ev (fun k => head_Parse.f k (hkLong 8187)) (resM mkS (some ([fdV [97 :: 58 :: 32 :: List.replicate 8187 120]], [], true))) := by
  have hp := parse_f (s := hkLong 8187)
  rw [if_neg (by rw [hkLong_size]; decide)] at hp
  have hg : GdL [97 :: 58 :: 32 :: List.replicate 8187 (120 : UInt8)] := by
    refine ⟨_, [], rfl, ?_, ?_, by simp⟩
    · show ((97 :: 58 :: 32 :: List.replicate 8187 (120 : UInt8)).any (· == 58) && fnL (rdL ((97 :: 58 :: 32 :: List.replicate 8187 (120 : UInt8)).takeWhile col))) = true
      have e1 : (97 :: 58 :: 32 :: List.replicate 8187 (120 : UInt8)).takeWhile col = [97] := by
        rw [List.takeWhile_cons, if_pos (by decide), List.takeWhile_cons, if_neg (by decide)]
      rw [e1, List.any_cons, List.any_cons]
      simp only [show ((58 : UInt8) == 58) = true from rfl, Bool.true_or, Bool.or_true, Bool.true_and]
      decide
    · intro x hx
      rw [List.mem_singleton.1 hx]
      unfold rgL
      rw [List.all_cons, List.all_cons, List.all_cons]
      have := rep_rg 8187
      unfold rgL at this
      rw [this]; decide
  have hm := ms_text (gs := [[97 :: 58 :: 32 :: List.replicate 8187 (120 : UInt8)]]) (by intro g hg'; rw [List.mem_singleton.1 hg']; exact hg) true (bl := []) (by simp)
  have he : mtL [[97 :: 58 :: 32 :: List.replicate 8187 (120 : UInt8)]] true [] = L (hkLong 8187) := by
    rw [long_L]; unfold mtL; rw [if_pos rfl, List.append_nil, List.map_cons, List.map_nil, List.flatten_cons, List.flatten_nil, List.append_nil]
  rw [he] at hm
  rw [hm] at hp
  exact hp
theorem long_no : Ev (fun k => head_Parse.f k (hkLong 8188)) (([] : List S41), (⟨#[]⟩ : ByteArray), false, 3) := by
  have hp := parse_f (s := hkLong 8188)
  rw [if_pos (by rw [hkLong_size]; decide)] at hp
  exact hp
theorem row0 : ∀ z ∈ hkRow0, (head_Parse.f 60 z.1).map (fun r => r.2.2.2) = some z.2 := by
  have h : (hkRow0.all fun z => decide ((head_Parse.f 60 z.1).map (fun r => r.2.2.2) = some z.2)) = true := by decide +kernel
  intro z hz
  have := List.all_eq_true.1 h z hz
  simpa using this
theorem ev_const {α β : Type} {g : Nat → Option α} {a : α} (h : Ev g a) (f : α → β) : ∃ K, ∀ k, K ≤ k → (g k).map f = some (f a) := by
  obtain ⟨K, hK⟩ := h
  exact ⟨K, fun k hk => by rw [hK k hk]; rfl⟩
theorem map0_f : Ev (fun k => postriderlaw07_HeadKnown_map0.f k) true := by
  obtain ⟨K1, h1⟩ := ev_const long_ok (fun r => r.2.2.2)
  obtain ⟨K2, h2⟩ := ev_const long_no (fun r => r.2.2.2)
  refine ⟨60 + K1 + K2, fun k hk => ?_⟩
  show postriderlaw07_HeadKnown_map0.f k = some true
  unfold postriderlaw07_HeadKnown_map0.f
  rw [if_pos]
  refine List.all_eq_true.2 (fun z hz => ?_)
  rw [decide_eq_true_eq]
  unfold hkRow at hz
  rcases List.mem_append.1 hz with hz | hz
  · obtain ⟨v, q1, q2⟩ := Option.map_eq_some_iff.1 (row0 z hz)
    have hm : Ev (fun k => head_Parse.f k z.1) v := Ev.of (k := 60) (fun k => head_Parse.mono _ k) q1
    have : ∀ j, head_Parse.f (60 + j) z.1 = some v := by
      intro j
      induction j with
      | zero => exact q1
      | succ j ih => exact head_Parse.mono _ _ _ ih
    have := this (k - 60)
    rw [show 60 + (k - 60) = k by omega] at this
    rw [this, Option.map_some, q2]
  · simp only [List.mem_cons, List.not_mem_nil, or_false] at hz
    rcases hz with rfl | rfl
    · rw [h1 k (by omega)]; rfl
    · rw [h2 k (by omega)]
/-! ### The rest of the law -/
def hkTxt : ByteArray := ⟨#[65, 58, 32, 49, 13, 10, 98, 32, 58, 32, 50, 32, 13, 10, 9, 51, 13, 10, 97, 58, 52, 13, 10, 13, 10, 13, 10]⟩
theorem txt_ok : ∃ (l : List S41) (b : ByteArray) (e : Bool), head_Parse.f 60 hkTxt = some (l, b, e, 0) ∧ l.length = 3 ∧ ((rd_T41 l 1).f0).toList = ([98] : List UInt8) ∧ ((rd_T41 l 1).f1).toList = ([50, 32, 9, 51] : List UInt8) ∧ b.toList = ([13, 10] : List UInt8) ∧ (headText l b e).length ≤ 1000 ∧ b.size ≤ 1000 ∧
    head_Message_Find.f l b e (⟨#[97]⟩ : ByteArray) = some [(⟨#[49]⟩ : ByteArray), (⟨#[52]⟩ : ByteArray)] ∧ head_Message_Count.f l b e (⟨#[66]⟩ : ByteArray) = some 1 ∧ head_Message_Count.f l b e (⟨#[99]⟩ : ByteArray) = some 0 := by
  have h : ((head_Parse.f 60 hkTxt).map fun r => decide (r.2.2.2 = 0 ∧ r.1.length = 3 ∧ ((rd_T41 r.1 1).f0).toList = ([98] : List UInt8) ∧ ((rd_T41 r.1 1).f1).toList = ([50, 32, 9, 51] : List UInt8) ∧ r.2.1.toList = ([13, 10] : List UInt8) ∧ (headText r.1 r.2.1 r.2.2.1).length ≤ 1000 ∧ r.2.1.size ≤ 1000 ∧
      head_Message_Find.f r.1 r.2.1 r.2.2.1 (⟨#[97]⟩ : ByteArray) = some [(⟨#[49]⟩ : ByteArray), (⟨#[52]⟩ : ByteArray)] ∧ head_Message_Count.f r.1 r.2.1 r.2.2.1 (⟨#[66]⟩ : ByteArray) = some 1 ∧ head_Message_Count.f r.1 r.2.1 r.2.2.1 (⟨#[99]⟩ : ByteArray) = some 0)) = some true := by decide +kernel
  obtain ⟨⟨l, b, e, c⟩, h1, h2⟩ := Option.map_eq_some_iff.1 h
  rw [decide_eq_true_eq] at h2
  obtain ⟨rfl, h2⟩ := h2
  exact ⟨l, b, e, h1, h2⟩
theorem eqs_f : Ev (fun k => slices_Equal_string_string.f k [(⟨#[49]⟩ : ByteArray), (⟨#[52]⟩ : ByteArray)] [(⟨#[49]⟩ : ByteArray), (⟨#[52]⟩ : ByteArray)]) true := Ev.of (k := 20) (fun k => slices_Equal_string_string.mono _ _ k) (by decide +kernel)
/-- What a laid field says: its code, its text. -/
theorem lay_of {nm v : ByteArray} {c : Int} {raw : List UInt8} (h : ((head_Lay.f 400 nm v).map fun r => decide (r.2.2.2 = c ∧ r.2.2.1.toList = raw)) = some true) : ∃ r, Ev (fun k => head_Lay.f k nm v) r ∧ r.2.2.2 = c ∧ r.2.2.1.toList = raw := by
  obtain ⟨r, h1, h2⟩ := Option.map_eq_some_iff.1 h
  rw [decide_eq_true_eq] at h2
  exact ⟨r, Ev.of (k := 400) (fun k => head_Lay.mono _ _ k) h1, h2⟩
theorem lay_c {nm v : ByteArray} {c : Int} (h : ((head_Lay.f 400 nm v).map fun r => decide (r.2.2.2 = c)) = some true) : ∃ r, Ev (fun k => head_Lay.f k nm v) r ∧ r.2.2.2 = c := by
  obtain ⟨r, h1, h2⟩ := Option.map_eq_some_iff.1 h
  rw [decide_eq_true_eq] at h2
  exact ⟨r, Ev.of (k := 400) (fun k => head_Lay.mono _ _ k) h1, h2⟩
/-- A field that makes the message too long. -/
theorem ahead_long {l : List S41} {b : ByteArray} {e : Bool} (hl : l.length = 3) (ht : (headText l b e).length ≤ 1000) (hb : b.size ≤ 1000) :
    Ev (fun k => head_Message_Ahead.f k l b e (⟨#[120]⟩ : ByteArray) (B (List.replicate 8192 121))) (([] : List S41), (⟨#[]⟩ : ByteArray), false, 3) := by
  obtain ⟨g, d1, d2, d3, d4⟩ := lay_good (nm := (⟨#[120]⟩ : ByteArray)) (v := B (List.replicate 8192 121)) (by decide) (by rw [B_size, List.length_replicate]; decide) (by decide) (by rw [L_B]; exact rep_rgy 8192)
  have hns : (⟨#[120]⟩ : ByteArray).size = 1 := rfl
  rw [B_size, List.length_replicate, hns] at d3
  have hfl := flat_le g
  have hgl := congrArg List.length d2
  rw [L_B, List.length_append, List.length_cons, List.length_cons, List.length_replicate] at hgl
  have hxt : headText ([mkS (fdV g)] ++ l) b e = flat g ++ headText l b e := by
    unfold headText
    rw [headPre_all, headPre_all, List.map_append, List.flatten_append, List.append_assoc]
    congr 1
    show [(B (flat g)).data.toList].flatten = _
    rw [List.flatten_cons, List.flatten_nil, List.append_nil]
    exact L_B _
  have hlen : (headText ([mkS (fdV g)] ++ l) b e).length = (flat g).length + (headText l b e).length := by rw [hxt, List.length_append]
  have hw : head_Message_with.f l b e ([mkS (fdV g)] ++ l) = some (([] : List S41), (⟨#[]⟩ : ByteArray), false, 3) := by
    unfold head_Message_with.f
    rw [text_f (by omega) (by simp; omega) (by omega), Option.bind_some, if_pos (by rw [B_size]; omega)]
  unfold head_Message_Ahead.f
  refine Ev.bind2 d4 ?_
  simp only [if_true]
  refine Ev.bindc (a := [mkS (fdV g)]) rfl ?_
  have hll : ([mkS (fdV g)] : List S41).length + l.length < 2932031007402 := by simp only [List.length_cons, List.length_nil]; omega
  simp only [if_pos hll]
  exact Ev.bindc hw (Ev.pure _)
theorem put_no {l : List S41} {b : ByteArray} {e : Bool} (hl : l.length = 3) : Ev (fun k => head_Message_Put.f k l b e 3 (⟨#[]⟩ : ByteArray)) (([] : List S41), (⟨#[]⟩ : ByteArray), false, 1) ∧ Ev (fun k => head_Message_Put.f k l b e (-1) (⟨#[]⟩ : ByteArray)) (([] : List S41), (⟨#[]⟩ : ByteArray), false, 1) := by
  unfold head_Message_Put.f
  constructor
  · simp only [if_neg (show ¬ (3 : Int) < 0 by omega)]
    refine Ev.eq (f := fun _ => some _) (fun k => ?_) (Ev.pure _)
    simp only [head_Message_Put.j0]
    rw [if_pos (by rw [decide_eq_true_iff]; omega)]
  · simp only [if_pos (show (-1 : Int) < 0 by omega)]
    refine Ev.eq (f := fun _ => some _) (fun k => ?_) (Ev.pure _)
    simp only [head_Message_Put.j0]
    rw [if_pos trivial]
abbrev r70 : ByteArray := B (List.replicate 70 120)
abbrev r74 : ByteArray := B (List.replicate 74 121)
abbrev r73 : ByteArray := B (List.replicate 73 121)
set_option maxRecDepth 20000 in
theorem j0_f {l : List S41} {b : ByteArray} {e : Bool} (hl : l.length = 3) (ht : (headText l b e).length ≤ 1000) (hb : b.size ≤ 1000) : Ev (fun k => postriderlaw07_HeadKnown.j0 k false l b e) true := by
  obtain ⟨a, ⟨Ka, ha⟩, a1, a2⟩ := lay_of (nm := (⟨#[84, 111]⟩ : ByteArray)) (v := ((r70 ++ (⟨#[44, 32]⟩ : ByteArray)) ++ r70) ++ (⟨#[44, 32, 121, 44, 32, 122]⟩ : ByteArray)) (c := 0) (raw := ((((((⟨#[84, 111, 58, 32]⟩ : ByteArray) ++ r70) ++ (⟨#[44, 13, 10, 32]⟩ : ByteArray)) ++ r70) ++ (⟨#[44, 32, 121, 44, 32, 122, 13, 10]⟩ : ByteArray))).toList) (by decide +kernel)
  obtain ⟨c, ⟨Kc, hc⟩, c1, c2⟩ := lay_of (nm := (⟨#[84, 111]⟩ : ByteArray)) (v := ((⟨#[44, 32]⟩ : ByteArray) ++ r70) ++ r70) (c := 0) (raw := (((((⟨#[84, 111, 58, 32, 44, 13, 10, 32]⟩ : ByteArray) ++ r70) ++ r70) ++ (⟨#[13, 10]⟩ : ByteArray))).toList) (by decide +kernel)
  obtain ⟨d, ⟨Kd, hd⟩, d1, d2⟩ := lay_of (nm := (⟨#[84, 111]⟩ : ByteArray)) (v := r74 ++ (⟨#[44, 32, 122]⟩ : ByteArray)) (c := 0) (raw := ((((⟨#[84, 111, 58, 32]⟩ : ByteArray) ++ r74) ++ (⟨#[44, 13, 10, 32, 122, 13, 10]⟩ : ByteArray))).toList) (by decide +kernel)
  obtain ⟨f, ⟨Kf, hf⟩, f1, f2⟩ := lay_of (nm := (⟨#[84, 111]⟩ : ByteArray)) (v := r73 ++ (⟨#[44, 32, 122]⟩ : ByteArray)) (c := 0) (raw := ((((⟨#[84, 111, 58, 32]⟩ : ByteArray) ++ r73) ++ (⟨#[44, 13, 10, 32, 122, 13, 10]⟩ : ByteArray))).toList) (by decide +kernel)
  obtain ⟨g, ⟨Kg, hg⟩, g1⟩ := lay_c (nm := (⟨#[84, 32, 111]⟩ : ByteArray)) (v := (⟨#[]⟩ : ByteArray)) (c := 5) (by decide +kernel)
  obtain ⟨h, ⟨Kh, hh⟩, h1⟩ := lay_c (nm := (⟨#[]⟩ : ByteArray)) (v := (⟨#[120]⟩ : ByteArray)) (c := 5) (by decide +kernel)
  obtain ⟨i, ⟨Ki, hi⟩, i1⟩ := lay_c (nm := (⟨#[120]⟩ : ByteArray)) (v := (⟨#[97, 10, 98]⟩ : ByteArray)) (c := 5) (by decide +kernel)
  obtain ⟨Ko, ho⟩ := ahead_long hl ht hb
  obtain ⟨⟨Kp, hp⟩, ⟨Kq, hq⟩⟩ := put_no (b := b) (e := e) hl
  obtain ⟨Kw, hw⟩ := wakes_f
  refine ⟨Ka + Kc + Kd + Kf + Kg + Kh + Ki + Ko + Kp + Kq + Kw + 1, fun k hk => ?_⟩
  obtain ⟨k, rfl⟩ : ∃ q, k = q + 1 := ⟨k - 1, by omega⟩
  replace ha := ha k (by omega)
  replace hc := hc k (by omega)
  replace hd := hd k (by omega)
  replace hf := hf k (by omega)
  replace hg := hg k (by omega)
  replace hh := hh k (by omega)
  replace hi := hi k (by omega)
  replace ho := ho k (by omega)
  replace hp := hp k (by omega)
  replace hq := hq k (by omega)
  replace hw := hw k (by omega)
  dsimp only at ha hc hd hf hg hh hi ho hp hq hw
  have e70 : strings_Repeat.f (⟨#[120]⟩ : ByteArray) 70 = some r70 := rep_f 120 70 (by decide)
  have e74 : strings_Repeat.f (⟨#[121]⟩ : ByteArray) 74 = some r74 := rep_f 121 74 (by decide)
  have e73 : strings_Repeat.f (⟨#[121]⟩ : ByteArray) 73 = some r73 := rep_f 121 73 (by decide)
  have e81 : strings_Repeat.f (⟨#[121]⟩ : ByteArray) 8192 = some (B (List.replicate 8192 121)) := rep_f 121 8192 (by decide)
  show postriderlaw07_HeadKnown.j0 (k + 1) false l b e = some true
  simp only [postriderlaw07_HeadKnown.j0]
  rw [if_neg (by simp), e70, Option.bind_some, if_pos (by decide), if_pos (by decide), if_pos (by decide), ha, Option.bind_some, if_pos (by decide), if_pos (by decide), hc, Option.bind_some, e74, Option.bind_some, if_pos (by decide), hd, Option.bind_some, e73, Option.bind_some, if_pos (by decide), hf, Option.bind_some, hg, Option.bind_some, hh, Option.bind_some, hi, Option.bind_some, e81, Option.bind_some, ho, Option.bind_some, hp, Option.bind_some, hq, Option.bind_some]
  rw [if_pos a1, if_pos (by decide), if_pos (by decide), if_pos (by decide), if_pos (by decide), if_pos a2, if_pos c1, if_pos (by decide), if_pos (by decide), if_pos (by decide), if_pos c2, if_pos d1, Option.bind_some, if_pos (by decide), if_pos (by decide), if_pos d2, if_pos f1, Option.bind_some, if_pos (by decide), if_pos (by decide), if_pos f2, if_pos g1, if_pos h1, if_pos i1, if_pos rfl, if_pos rfl, if_pos rfl, hw, Option.bind_some]
theorem known_f : Ev (fun k => postriderlaw07_HeadKnown.f k) true := by
  obtain ⟨l, b, e, p1, p2, p3, p4, p5, p6, p7, p8, p9, p10⟩ := txt_ok
  have hp : Ev (fun k => head_Parse.f k hkTxt) (l, b, e, 0) := Ev.of (k := 60) (fun k => head_Parse.mono _ k) p1
  unfold postriderlaw07_HeadKnown.f
  refine Ev.bind2 map0_f ?_
  refine Ev.bind2 hp ?_
  have q1 : (l.length : Int) = 3 := by omega
  have q2 : 1 < (l.length : Int) := by omega
  have e1 : (hkTxt : ByteArray) = hkTxt := rfl
  simp only [if_true, if_pos q1, if_pos q2, if_pos p3, if_pos p4, if_pos p5]
  refine Ev.bindc p8 ?_
  refine Ev.bind2 eqs_f ?_
  simp only [if_true]
  refine Ev.bindc p9 ?_
  simp only [if_true]
  refine Ev.bindc p10 ?_
  exact j0_f p2 p6 p7
end Go.Proofs.YtdciiahlakgikaaDoor.Pure
