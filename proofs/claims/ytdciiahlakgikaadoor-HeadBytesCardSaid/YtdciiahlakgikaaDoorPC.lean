/- Byte by byte: the law's own steps. -/
import Derived.Test.YtdciiahlakgikaaDoorPB
namespace Go.Proofs.YtdciiahlakgikaaDoor.Pure
open Go.RowKit Go.Proofs.YtdciiahlakgikaaDoor.Q Go.Proofs.YtdciiahlakgikaaDoor.S Go.Proofs.YtdciiahlakgikaaDoorW.PrintWords Go.Proofs.YtdciiahlakgikaaDoorW.PrintLast Go.Proofs.YtdciiahlakgikaaDoorW.PrintMore
set_option linter.unusedVariables false
set_option linter.unusedSimpArgs false
theorem Ev.with {α β : Type} {g : Nat → Option α} {f F : Nat → Option β} {a : α} {r : β} (h : Ev g a) (h2 : Ev f r) (e : ∀ k, g k = some a → F (k + 1) = f k) : Ev F r := by
  obtain ⟨n, hn⟩ := h
  obtain ⟨m, hm⟩ := h2
  refine ⟨max n m + 1, fun k hk => ?_⟩
  obtain ⟨q, rfl⟩ : ∃ q, k = q + 1 := ⟨k - 1, by omega⟩
  rw [e q (hn q (by omega))]
  exact hm q (by omega)
theorem Ev.with2 {α α2 β : Type} {g : Nat → Option α} {g2 : Nat → Option α2} {f F : Nat → Option β} {a : α} {a2 : α2} {r : β} (h : Ev g a) (h' : Ev g2 a2) (h2 : Ev f r) (e : ∀ k, g k = some a → g2 k = some a2 → F (k + 1) = f k) : Ev F r := by
  obtain ⟨n, hn⟩ := h
  obtain ⟨n2, hn2⟩ := h'
  obtain ⟨m, hm⟩ := h2
  refine ⟨max n (max n2 m) + 1, fun k hk => ?_⟩
  obtain ⟨q, rfl⟩ : ∃ q, k = q + 1 := ⟨k - 1, by omega⟩
  rw [e q (hn q (by omega)) (hn2 q (by omega))]
  exact hm q (by omega)
theorem set_fl (g1 : LL) : ∀ (gs : List LL) (i : Nat), (((gs.set i g1).map flat).flatten).length ≤ ((gs.map flat).flatten).length + (flat g1).length
  | [], i => by simp
  | g :: gs, 0 => by simp only [List.set_cons_zero, List.map_cons, List.flatten_cons, List.length_append]; omega
  | g :: gs, i + 1 => by
    have h := set_fl g1 gs i
    simp only [List.set_cons_succ, List.map_cons, List.flatten_cons, List.length_append]
    omega
section
variable {ls : List S111} {e : Bool} {bl : LL} {v : List UInt8}
theorem gs_at {i : Nat} (h : i < (ls.map lnL).length) : (fdV ((ls.map lnL)[i]'h)).1 = nmL (ls[i]'(by simpa using h)) := by
  rw [List.getElem_map]; exact (ln_fd _).1
theorem gs_at2 {i : Nat} (h : i < (ls.map lnL).length) : (fdV ((ls.map lnL)[i]'h)).2.1 = fvL (ls[i]'(by simpa using h)) := by
  rw [List.getElem_map]; exact (ln_fd _).2
/-- What is known of the message that was read. -/
structure Ok (ls : List S111) (e : Bool) (bl : LL) : Prop where
  few : ls.length ≤ 12
  rg : ∀ x ∈ bl, rgL x = true
  bn : (flat bl).length ≤ 2402
theorem Ok.gd (h : Ok ls e bl) : ∀ g ∈ ls.map lnL, GdL g := by
  intro g hg
  obtain ⟨x, _, rfl⟩ := List.mem_map.1 hg
  exact ln_gd x
theorem Ok.fl (h : Ok ls e bl) : (((ls.map lnL).map flat).flatten).length ≤ 2724 := by
  have h1 := fl_len (n := 227) (ls.map lnL) (fun g hg => by
    obtain ⟨x, _, rfl⟩ := List.mem_map.1 hg
    exact ln_len x)
  have h2 := h.few
  rw [List.length_map] at h1
  omega
theorem Ok.mt (h : Ok ls e bl) : (mtL (ls.map lnL) e bl).length ≤ 5128 := by
  have h1 := mt_len (ls.map lnL) e bl
  have h2 := h.fl
  have h3 := h.bn
  omega
/-- The field put in its place. -/
theorem put_ok (h : Ok ls e bl) (hv : v.all vlC = true) (hvl : v.length ≤ 400) {i : Nat} (hi : i < ls.length) :
    ∃ g1, GdL g1 ∧ (fdV g1).1 = nmL (ls[i]'hi) ∧ (fdV g1).2.1 = trimL v ∧ (mtL ((ls.map lnL).set i g1) e bl).length ≤ 8192 ∧
      Ev (fun k => head_Message_Put.f k (flL (ls.map lnL)) (B (bdL e bl)) e (i : Int) (B v)) (flL ((ls.map lnL).set i g1), B (bdL e bl), e, 0) := by
  have hn := nm_len (ls[i]'hi)
  have hrg := vl_rgL hv
  obtain ⟨g1, d1, d2, d3, d4⟩ := lay_good (nm := B (nmL (ls[i]'hi))) (v := B v) (by rw [B_size]; omega) (by rw [B_size]; omega) (by rw [L_B]; exact nm_fn _) (by rw [L_B]; exact hrg)
  rw [L_B, L_B] at d2
  obtain ⟨d5, d6⟩ := fd_name (nm_fn _) d2
  rw [trim_blank] at d6
  rw [B_size, B_size] at d3
  have h1 := set_fl g1 (ls.map lnL) i
  have h2 := h.fl
  have h3 := h.bn
  have h4 := h.few
  have h5 := mt_len ((ls.map lnL).set i g1) e bl
  have hlen : (mtL ((ls.map lnL).set i g1) e bl).length ≤ 8192 := by omega
  have hil : i < (ls.map lnL).length := by rw [List.length_map]; exact hi
  refine ⟨g1, d1, d5, d6, hlen, ?_⟩
  have hfl := fl_length (ls.map lnL)
  rw [List.length_map] at hfl
  have hnm : (rd_T41 (flL (ls.map lnL)) (i : Int)).f0 = B (nmL (ls[i]'hi)) := by
    rw [rd_fl _ i hil]
    show B (fdV ((ls.map lnL)[i]'hil)).1 = _
    rw [gs_at hil]
  have hset : (flL (ls.map lnL)).set i (mkS (fdV g1)) = flL ((ls.map lnL).set i g1) := by unfold flL; rw [List.map_set, List.map_set]
  unfold head_Message_Put.f
  simp only [if_neg (show ¬ (i : Int) < 0 by omega)]
  refine Ev.with d4 (Ev.pure _) (fun k ek => ?_)
  simp only [head_Message_Put.j0]
  rw [if_neg (by simp; omega), if_pos (by omega), if_pos (by omega), hnm, ek]
  simp only [Option.bind_some, if_true]
  have hcl : slices_Clone_head_Field_head_Field.f (flL (ls.map lnL)) = some (flL (ls.map lnL)) := by unfold slices_Clone_head_Field_head_Field.f; rw [if_pos (by omega)]
  rw [hcl]
  simp only [Option.bind_some]
  rw [if_pos (by omega), Int.toNat_natCast]
  have hm : (⟨(mkS (fdV g1)).f0, (mkS (fdV g1)).f1, (mkS (fdV g1)).f2⟩ : S41) = mkS (fdV g1) := rfl
  rw [hm, hset, with_gs _ hlen (by rw [List.length_set, List.length_map]; omega) (by omega)]
  rfl
theorem tl_ne {x y : ByteArray} (h : x = y) : (x.toList != y.toList) = false := by rw [h]; simp
/-- The last part: a field is put in its place. -/
theorem put_j3 (h : Ok ls e bl) (hv : v.all vlC = true) (hvl : v.length ≤ 400) {at_ : Int} (h0 : 0 ≤ at_) (h1 : at_ < 256) {a2 : ByteArray} {e2 : Bool} :
    Ev (fun k => postriderlaw07_HeadBytes.j3 k (B (mtL (ls.map lnL) e bl)) (ls.map mdName) (nmx v) false a2 at_ e2 (flL (ls.map lnL)) (B (bdL e bl)) e) true := by
  have hfl := fl_length (ls.map lnL)
  rw [List.length_map] at hfl
  have hmt := h.mt
  have hbn := h.bn
  have hfew := h.few
  by_cases hz : ls.length = 0
  · -- no field at all
    have hp : Ev (fun k => head_Message_Put.f k (flL (ls.map lnL)) (B (bdL e bl)) e 0 (⟨#[]⟩ : ByteArray)) (([] : List S41), (⟨#[]⟩ : ByteArray), false, 1) := by
      unfold head_Message_Put.f
      simp only [if_neg (show ¬ (0 : Int) < 0 by omega)]
      refine Ev.eq (f := fun _ => some _) (fun k => ?_) (Ev.pure _)
      simp only [head_Message_Put.j0]
      rw [if_pos (by rw [decide_eq_true_iff]; omega)]
    refine Ev.with2 hp wakes_f (Ev.pure true) (fun k e1 e3 => ?_)
    simp only [postriderlaw07_HeadBytes.j3]
    rw [if_neg (by simp), if_pos (by omega), e1]
    simp only [Option.bind_some, if_true, e3]
  · have ew : wrap64 at_ = at_ := by unfold wrap64; omega
    obtain ⟨i, hi⟩ : ∃ i : Nat, Int.tmod at_ ((flL (ls.map lnL)).length : Int) = (i : Int) := ⟨(Int.tmod at_ ((flL (ls.map lnL)).length : Int)).toNat, by have := Int.tmod_nonneg ((flL (ls.map lnL)).length : Int) h0; omega⟩
    have hil : i < ls.length := by
      have := Int.tmod_lt_of_pos at_ (show (0 : Int) < ((flL (ls.map lnL)).length : Int) by omega)
      omega
    have hil2 : i < (ls.map lnL).length := by rw [List.length_map]; exact hil
    obtain ⟨g1, d1, d2, d3, d4, d5⟩ := put_ok (e := e) h hv hvl hil
    have hfl2 := fl_length ((ls.map lnL).set i g1)
    rw [List.length_set, List.length_map] at hfl2
    have hgd : ∀ g ∈ (ls.map lnL).set i g1, GdL g := by
      intro g hg
      rcases List.mem_or_eq_of_mem_set hg with hg | rfl
      · exact h.gd g hg
      · exact d1
    have hmay := may_gs hgd h.rg d4
    have hrd : rd_T41 (flL ((ls.map lnL).set i g1)) (i : Int) = mkS (fdV g1) := by
      rw [rd_fl _ i (by rw [List.length_set]; exact hil2), List.getElem_set_self]
    have hj4 := put_j4 (e := e) (bl := bl) (gs := ls.map lnL) (g1 := g1) (i := i) hil2 (by rw [List.length_map]; omega) (by omega) (by omega) (w := B (bdL e bl)) (c := e)
    refine Ev.with2 d5 hmay hj4 (fun k e1 e3 => ?_)
    simp only [postriderlaw07_HeadBytes.j3]
    rw [if_neg (by simp), if_neg (by omega), ew, hi, str_nmx, e1]
    simp only [Option.bind_some, if_true]
    rw [e3]
    simp only [Option.bind_some, if_true]
    rw [if_pos (by omega), if_pos (by omega), if_pos (by omega), if_pos (by rw [List.length_map]; omega), hrd, rd_names ls i hil]
    have q1 : (mkS (fdV g1)).f0 = B (nmL (ls[i]'hil)) := by show B (fdV g1).1 = _; rw [d2]
    have q2 : (mkS (fdV g1)).f1 = B (trimL v) := by show B (fdV g1).2.1 = _; rw [d3]
    rw [if_pos (by rw [q1]), trim_vl hv (by omega)]
    simp only [Option.bind_some]
    rw [tl_ne q2]
set_option maxHeartbeats 1000000 in
/-- A field is laid ahead. -/
theorem ahead_l1 (h : Ok ls e bl) (hv : v.all vlC = true) (hvl : v.length ≤ 400) {at_ : Int} (h0 : 0 ≤ at_) (h1 : at_ < 256) {a2 : ByteArray} {e2 : Bool} :
    Ev (fun k => postriderlaw07_HeadBytes.l1 k (B (mtL (ls.map lnL) e bl)) (ls.map mdName) (nmx v) (v.length : Int) (v.length : Int) a2 at_ e2 (flL (ls.map lnL)) (B (bdL e bl)) e) true := by
  have hfl := fl_length (ls.map lnL)
  rw [List.length_map] at hfl
  have hmt := h.mt
  have hbn := h.bn
  have hfew := h.few
  have hrg := vl_rgL hv
  obtain ⟨g0, d1, d2, d3, d4⟩ := lay_good (nm := (⟨#[88, 45, 78, 101, 119]⟩ : ByteArray)) (v := B v) (by decide) (by rw [B_size]; omega) (by decide) (by rw [L_B]; exact hrg)
  rw [L_B] at d2
  obtain ⟨d5, d6⟩ := fd_name (nm := L (⟨#[88, 45, 78, 101, 119]⟩ : ByteArray)) (by decide) d2
  rw [trim_blank] at d6
  have hns : (⟨#[88, 45, 78, 101, 119]⟩ : ByteArray).size = 5 := rfl
  rw [B_size, hns] at d3
  have hml : (mtL (g0 :: ls.map lnL) e bl) = flat g0 ++ mtL (ls.map lnL) e bl := by unfold mtL; simp
  have hlen : (mtL (g0 :: ls.map lnL) e bl).length ≤ 8192 := by rw [hml, List.length_append]; omega
  have hgd : ∀ g ∈ g0 :: ls.map lnL, GdL g := by
    intro g hg
    rcases List.mem_cons.1 hg with rfl | hg
    · exact d1
    · exact h.gd g hg
  have hmay := may_gs hgd h.rg hlen
  have hah : Ev (fun k => head_Message_Ahead.f k (flL (ls.map lnL)) (B (bdL e bl)) e (⟨#[88, 45, 78, 101, 119]⟩ : ByteArray) (B v)) (flL (g0 :: ls.map lnL), B (bdL e bl), e, 0) := by
    unfold head_Message_Ahead.f
    refine Ev.bind2 d4 ?_
    simp only [if_true]
    refine Ev.bindc (a := [mkS (fdV g0)]) rfl ?_
    have hl : ([mkS (fdV g0)] : List S41).length + (flL (ls.map lnL)).length < 2932031007402 := by simp only [List.length_cons, List.length_nil]; omega
    simp only [if_pos hl]
    have he : [mkS (fdV g0)] ++ flL (ls.map lnL) = flL (g0 :: ls.map lnL) := rfl
    rw [he]
    exact Ev.bindc (with_gs _ hlen (by rw [List.length_cons, List.length_map]; omega) (by omega)) (Ev.pure _)
  have hfl2 := fl_length (g0 :: ls.map lnL)
  rw [List.length_cons, List.length_map] at hfl2
  have hrd := rd_fl (g0 :: ls.map lnL) 0 (by simp)
  rw [show ((0 : Nat) : Int) = 0 from rfl, List.getElem_cons_zero] at hrd
  have t1 : (g0 :: ls.map lnL).length ≤ 100 := by rw [List.length_cons, List.length_map]; omega
  have t2 : (flat bl).length ≤ 8192 := by omega
  have t3 : ((flL (g0 :: ls.map lnL)).length : Int) = ((ls.length + 1 : Nat) : Int) := by rw [hfl2]
  have t4 : (0 : Int) < ((flL (g0 :: ls.map lnL)).length : Int) := by rw [hfl2]; omega
  have t5 := text_ev hlen t1 t2
  have t6 := suf_mt (flat g0) (mtL (ls.map lnL) e bl) (by rw [← hml]; omega)
  rw [← hml] at t6
  have t7 := trim_vl hv (by omega)
  have q2 : (mkS (fdV g0)).f1 = B (trimL v) := by show B (fdV g0).2.1 = _; rw [d6]
  have t8 := put_j3 (e := e) h hv hvl h0 h1 (a2 := a2) (e2 := e2)
  have t9 := tl_ne q2
  rw [← hrd] at t9
  have hlw : wrap64 (((flL (ls.map lnL)).length : Int) + 1) = ((ls.length + 1 : Nat) : Int) := by rw [hfl]; exact w1 (m := 13) (by omega) (by omega)
  obtain ⟨F, hF⟩ : ∃ F, F = flL (g0 :: ls.map lnL) := ⟨_, rfl⟩
  obtain ⟨T, hT⟩ : ∃ T, T = mtL (g0 :: ls.map lnL) e bl := ⟨_, rfl⟩
  rw [← hF] at hah hmay t3 t4 t5 t9
  rw [← hT] at t5 t6
  clear hF hT hml hlen hgd hfl2 hrd t1 t2 q2 hmt hbn hfew hrg d1 d2 d3 d4 d5 d6 hns
  refine Ev.with2 hah hmay t8 (fun k e1 e3 => ?_)
  simp only [postriderlaw07_HeadBytes.l1]
  rw [if_neg (Int.lt_irrefl _), str_nmx, e1]
  simp only [Option.bind_some, if_true]
  rw [e3]
  simp only [Option.bind_some, if_true]
  rw [t5, Option.bind_some, t6, Option.bind_some, if_pos rfl, hlw, if_pos t3, if_pos t4, t7, Option.bind_some, t9]
/-- The value's bytes are brought to such as may be. -/
theorem brush_l1 (h : Ok ls e bl) {s : ByteArray} (hs : s.size ≤ 400) {at_ : Int} (h0 : 0 ≤ at_) (h1 : at_ < 256) {a2 : ByteArray} {e2 : Bool} : ∀ (d j : Nat), j + d = s.size →
    Ev (fun k => postriderlaw07_HeadBytes.l1 k (B (mtL (ls.map lnL) e bl)) (ls.map mdName) (mdBrush mdB j (Kd.numsOf s)) (s.size : Int) (j : Int) a2 at_ e2 (flL (ls.map lnL)) (B (bdL e bl)) e) true := by
  have hn := Kd.numsOf_length s
  intro d
  induction d with
  | zero =>
    intro j hj
    obtain rfl : j = s.size := by omega
    have e1 : mdBrush mdB s.size (Kd.numsOf s) = nmx ((L s).map bB) := by
      rw [← hn, mdBrush_all, nums_map bB_num]
    have hl : ((L s).map bB).length = s.size := by rw [List.length_map, L_len]
    have := ahead_l1 (e := e) h (v := (L s).map bB) (vl_map _) (by omega) h0 h1 (a2 := a2) (e2 := e2)
    rw [hl] at this
    rw [e1]
    exact this
  | succ d ih =>
    intro j hj
    have hj' : j < (Kd.numsOf s).length := by omega
    have hl := mdBrush_length mdB j (Kd.numsOf s)
    have hr := mdBrush_rd mdB j (Kd.numsOf s) hj'
    have hg := numsOf_rd s (j : Int)
    have hst := mdBrush_set mdB j (Kd.numsOf s) hj' _ (mdB_of hg)
    rw [← hr] at hst
    have ew := w1 (n := j) (m := s.size) (by omega) (by omega)
    refine Ev.eq (fun k => ?_) (ih (j + 1) (by omega))
    simp only [postriderlaw07_HeadBytes.l1]
    rw [if_pos (by omega), if_pos (by omega), if_pos (by omega), Int.toNat_natCast, ew]
    rw [show rd (mdBrush mdB j (Kd.numsOf s)) (j : Int) = rdOf 0 (mdBrush mdB j (Kd.numsOf s)) (j : Int) from rfl, hst]
/-- The look at each field. -/
theorem look_l0 (h : Ok ls e bl) {at_ : Int} (h0 : 0 ≤ at_) (h1 : at_ < 256) {a2 : ByteArray} (ha : a2.size ≤ 9223372036854775807) {e2 : Bool} : ∀ (d j : Nat), j + d = ls.length →
    Ev (fun k => postriderlaw07_HeadBytes.l0 k (B (mtL (ls.map lnL) e bl)) (ls.map mdName) (flL (ls.map lnL)) ((flL (ls.map lnL)).length : Int) (j : Int) a2 at_ e2 (flL (ls.map lnL)) (B (bdL e bl)) e) true := by
  have hfl := fl_length (ls.map lnL)
  rw [List.length_map] at hfl
  have hfew := h.few
  intro d
  induction d with
  | zero =>
    intro j hj
    have hm := mn_le (a2.size : Int) 400
    obtain ⟨s, hs⟩ : ∃ s, s = a2.extract 0 ((mn (a2.size : Int) 400) : Int).toNat := ⟨_, rfl⟩
    have hsz : s.size ≤ 400 := by rw [hs, ByteArray.size_extract]; omega
    have hk := brush_l1 (e := e) h hsz h0 h1 (a2 := a2) (e2 := e2) s.size 0 (by omega)
    rw [mdBrush_zero] at hk
    refine Ev.eq (fun k => ?_) hk
    simp only [postriderlaw07_HeadBytes.l0]
    rw [if_neg (by omega), if_pos (by omega), if_pos (by omega), ← hs, if_pos (by omega)]
    simp only [Option.bind_some]
    rw [Kd.numsOf_length]; rfl
  | succ d ih =>
    intro j hj
    have hjl : j < ls.length := by omega
    have hjl2 : j < (ls.map lnL).length := by rw [List.length_map]; exact hjl
    have ew := w1 (n := j) (m := ls.length) hjl (by omega)
    refine Ev.eq (fun k => ?_) (ih (j + 1) (by omega))
    simp only [postriderlaw07_HeadBytes.l0]
    rw [if_pos (by omega), if_pos (by omega), if_pos (by omega), if_pos (by rw [List.length_map]; omega), rd_fl _ j hjl2, rd_names ls j hjl]
    have q1 : (mkS (fdV ((ls.map lnL)[j]'hjl2))).f0 = B (nmL (ls[j]'hjl)) := by show B (fdV ((ls.map lnL)[j]'hjl2)).1 = _; rw [gs_at hjl2]
    have q2 : (mkS (fdV ((ls.map lnL)[j]'hjl2))).f1 = B (fvL (ls[j]'hjl)) := by show B (fdV ((ls.map lnL)[j]'hjl2)).2.1 = _; rw [gs_at2 hjl2]
    have hfv := fv_len (ls[j]'hjl)
    rw [if_pos (by rw [q1]), q2, fv_any (fv_num _) (by omega)]
    simp only [Option.bind_some, Bool.false_eq_true, if_false]
    rw [fv_trim (by omega) (by unfold fvL; exact trim_idem _)]
    simp only [Option.bind_some, if_true]
    rw [ew]
end
/-- The law, in plain words. -/
theorem bytes_f (l0 : List S111) (a1 a2 : ByteArray) (at_ : Int) (e : Bool) (hw : ∀ y ∈ l0, 0 ≤ y.f2 ∧ y.f2 < 256) (h0 : 0 ≤ at_) (h1 : at_ < 256) (ha : a2.size ≤ 9223372036854775807) : Ev (fun k => postriderlaw07_HeadBytes.f k l0 a1 a2 at_ e) true := by
  have hok : Ok (l0.take 12) e ((mdParts a1).map rwL) := ⟨by rw [List.length_take]; omega, rw_rg _, body_len a1⟩
  have hmt := hok.mt
  have hbn := hok.bn
  have hfew := hok.few
  have hms := ms_text hok.gd e hok.rg
  have hmade : postriderlaw07_made.f l0 a1 e = some (B (mtL ((l0.take 12).map lnL) e ((mdParts a1).map rwL)), (l0.take 12).map mdName) := by
    unfold postriderlaw07_made.f
    rw [if_pos (show mdOk l0 from hw), md_text]; rfl
  unfold postriderlaw07_HeadBytes.f
  refine Ev.bindc hmade ?_
  have hp := parse_f (s := B (mtL ((l0.take 12).map lnL) e ((mdParts a1).map rwL)))
  rw [if_neg (by rw [B_size]; omega), L_B, hms] at hp
  refine Ev.bind2 hp ?_
  simp only [resM, if_true]
  refine Ev.bindc (text_ev (e := e) (gs := (l0.take 12).map lnL) (bl := (mdParts a1).map rwL) (by omega) (by rw [List.length_map]; omega) (by omega)) ?_
  simp only [if_true]
  refine Ev.bind2 (may_gs hok.gd hok.rg (by omega)) ?_
  simp only [if_true]
  have hfl := fl_length ((l0.take 12).map lnL)
  rw [List.length_map] at hfl
  refine Ev.eq (fun k => ?_) (look_l0 (e := e) hok h0 h1 ha (e2 := e) (l0.take 12).length 0 (by omega))
  simp only [postriderlaw07_HeadBytes.j0]
  rw [if_neg]
  · rfl
  · have : ((((l0.take 12).map lnL).map fdV).map mkS).length = (l0.take 12).length := hfl
    rw [this, List.length_map]; simp
end Go.Proofs.YtdciiahlakgikaaDoor.Pure
