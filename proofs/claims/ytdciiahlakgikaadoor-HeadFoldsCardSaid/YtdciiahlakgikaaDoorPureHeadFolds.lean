/- Of any words: what is laid of them is folded behind commas. -/
import Derived.Test.YtdciiahlakgikaaDoorFW
import Derived.Test.YtdciiahlakgikaaDoorWK
import Derived.Test.YtdciiahlakgikaaDoorBR
import Derived.Test.YtdciiahlakgikaaDoorQx6
namespace Go.Proofs.YtdciiahlakgikaaDoor.Pure
open Go.RowKit Go.Proofs.YtdciiahlakgikaaDoor.Q Go.Proofs.YtdciiahlakgikaaDoor.S Go.Proofs.YtdciiahlakgikaaDoorW.PrintWords Go.Proofs.YtdciiahlakgikaaDoorW.PrintLast Go.Proofs.YtdciiahlakgikaaDoorW.PrintMore
set_option linter.unusedVariables false
set_option linter.unusedSimpArgs false
theorem Ev.with {α β : Type} {g : Nat → Option α} {f F : Nat → Option β} {a : α} {r : β} (h : Ev g a) (h2 : Ev f r) (e : ∀ k, g k = some a → F (k + 1) = f k) : Ev F r := by
  obtain ⟨n, hn⟩ := h
  obtain ⟨m, hm⟩ := h2
  refine ⟨max n m + 1, fun k hk => ?_⟩
  obtain ⟨q, rfl⟩ : ∃ q, k = q + 1 := ⟨k - 1, by omega⟩
  rw [e q (hn q (by omega))]
  exact hm q (by omega)
theorem least_is (j : Nat) : wrap64 (2 + wrap64 (3 * mn (wrap64 (1 - mn (j : Int) 1)) 1)) = (((if j = 0 then 5 else 2 : Nat)) : Int) := by
  by_cases h : j = 0
  · subst h; decide +kernel
  · rw [if_neg h]
    have e1 : mn (j : Int) 1 = 1 := by unfold mn; split <;> omega
    rw [e1]; decide +kernel
theorem suf_comma {x : List UInt8} (h : x.getLast? = some 44) : Lib.hasSuffix x [44] = true := by
  obtain ⟨y, rfl⟩ := List.getLast?_eq_some_iff.1 h
  exact List.isSuffixOf_iff_suffix.2 ⟨y, rfl⟩
theorem chk_j5 {ls : List (List UInt8)} {j : Nat} {x : List UInt8} (hx : x.length ≤ 100000) (hk : LnOk j x) {n : Int} (hj : j < 5000)
    (next : Ev (fun k => postriderlaw07_HeadFolds.l2 k (ls.map B) (ls.map B) n ((j + 1 : Nat) : Int)) true) :
    Ev (fun k => postriderlaw07_HeadFolds.j5 k (ls.map B) (j : Int) (B x) (ls.map B) n (j : Int) false) true := by
  have ew : wrap64 ((j : Int) + 1) = ((j + 1 : Nat) : Int) := by rw [wk (by omega) (by omega)]; omega
  have hz : (B x).size = x.length := B_size x
  refine Ev.eq (fun k => ?_) next
  simp only [postriderlaw07_HeadFolds.j5]
  rw [if_neg (by simp), least_is, ew]
  by_cases h78 : ((B x).size : Int) > 78
  · have hm : 2 ≤ (if j = 0 then 5 else 2 : Nat) ∧ (if j = 0 then 5 else 2 : Nat) ≤ 5 := by split <;> omega
    have hno := no_in (x := x) (m := if j = 0 then 5 else 2) (hk.2 (by omega)) (by omega)
    obtain ⟨m, hme⟩ : ∃ m : Nat, (if j = 0 then 5 else 2 : Nat) = m := ⟨_, rfl⟩
    rw [hme] at hm hno ⊢
    have em : wrap64 ((m : Int) - 1) = ((m - 1 : Nat) : Int) := by rw [wk (by omega) (by omega)]; omega
    have hc : strings_Contains.f ((B x).extract ((m - 1 : Nat) : Int).toNat (B x).size) (⟨#[44, 32]⟩ : ByteArray) = some false := by
      unfold strings_Contains.f
      have e1 : ((B x).extract ((m - 1 : Nat) : Int).toNat (B x).size).data.toList = x.drop (m - 1) := by
        have := L_ext_end (B x) (m - 1)
        rw [L_B] at this
        rw [Int.toNat_natCast]
        exact this
      have e2 : ((B x).extract ((m - 1 : Nat) : Int).toNat (B x).size).size = (x.drop (m - 1)).length := by rw [← L_len]; exact congrArg List.length e1
      rw [e1, e2, if_pos (by rw [List.length_drop]; omega), show (⟨#[44, 32]⟩ : ByteArray).data.toList = [44, 32] from rfl, hno]
    rw [if_pos h78, if_pos (by omega), em, if_pos (by omega), if_pos (by omega), hc, Option.bind_some, if_neg (by simp)]
  · rw [if_neg h78]
theorem chk_l2 {ls : List (List UInt8)} (h : LnsOk ls) (hn : ls.length ≤ 3010) (hx : ∀ x ∈ ls, x.length ≤ 100000) : ∀ d j : Nat, j + d = ls.length →
    Ev (fun k => postriderlaw07_HeadFolds.l2 k (ls.map B) (ls.map B) ((ls.map B).length : Int) (j : Int)) true := by
  have hlen : (ls.map B).length = ls.length := List.length_map ..
  intro d
  induction d with
  | zero =>
    intro j hj
    refine Ev.with wakes_f (Ev.pure true) (fun k hw => ?_)
    simp only [postriderlaw07_HeadFolds.l2]
    rw [if_neg (by omega), hw, Option.bind_some]
  | succ d ih =>
    intro j hj
    have hlt : j < ls.length := by omega
    have hk := h j _ (List.getElem?_eq_getElem hlt)
    obtain ⟨x, hxe⟩ : ∃ x, ls[j]'hlt = x := ⟨_, rfl⟩
    have hrd : rdOf ByteArray.empty (ls.map B) (j : Int) = B x := by rw [rd_map ls j hlt, hxe]
    rw [hxe] at hk
    have hxl : x.length ≤ 100000 := hx x (by rw [← hxe]; exact List.getElem_mem hlt)
    have ew : wrap64 ((j : Int) + 1) = ((j + 1 : Nat) : Int) := by rw [wk (by omega) (by omega)]; omega
    have hz : (B x).size = x.length := B_size x
    have c5 := chk_j5 (ls := ls) (n := ((ls.map B).length : Int)) hxl hk.1 (by omega) (ih (j + 1) (by omega))
    have hsf : j + 1 < ls.length → strings_HasSuffix.f (B x) (⟨#[44]⟩ : ByteArray) = some true := by
      intro hj1
      rw [suf_f (by omega), L_B, show L (⟨#[44]⟩ : ByteArray) = [44] from rfl, suf_comma (hk.2 hj1)]
    refine Ev.eq (fun k => ?_) c5
    simp only [postriderlaw07_HeadFolds.l2]
    rw [if_pos (by omega), if_pos (by omega), if_pos (by omega), hrd, ew]
    by_cases h0 : j = 0
    · rw [if_neg (by omega)]
      by_cases hl : j + 1 < ls.length
      · rw [if_pos (by omega), hsf hl]; rfl
      · rw [if_neg (by omega)]
    · have hh := hk.1.1 (by omega)
      cases x with
      | nil => cases hh
      | cons c x' =>
        obtain rfl : c = 32 := by simpa using hh
        have em : mn ((B (32 :: x')).size : Int) 1 = 1 := by
          have : ((B (32 :: x')).size : Int) = (x'.length : Int) + 1 := by rw [hz]; simp
          unfold mn; split <;> omega
        have e1 : ((B (32 :: x')).extract 0 (1 : Int).toNat).toList = [32] := by
          rw [toL, show (1 : Int).toNat = 1 from rfl, L_ext, L_B]; simp
        rw [if_pos (by omega), em, if_pos (by omega), if_pos (by rw [hz]; simp; omega), if_pos e1]
        by_cases hl : j + 1 < ls.length
        · rw [if_pos (by omega), hsf hl]; rfl
        · rw [if_neg (by omega)]
theorem j2_f {v : List UInt8} (hv : v.all vC = true) (hl : v.length ≤ 3000) : Ev (fun k => postriderlaw07_HeadFolds.j2 k (B v)) true := by
  obtain ⟨ls, g1, g2, g3, g4, g5⟩ := lay_To hv hl
  have hfl : ∀ l : List (List UInt8), (flat l).length = l.flatten.length + 2 * l.length := by
    intro l
    induction l with
    | nil => rfl
    | cons b l ih => rw [flat_cons, List.flatten_cons]; simp only [List.length_append, List.length_cons, ih]; omega
  have hfz := hfl ls
  rw [g2] at hfz
  simp only [List.length_cons] at hfz
  have hmem : ∀ x ∈ ls, ∀ c ∈ x, c ∈ (84 :: 111 :: 58 :: 32 :: v) := fun x hx c hc => by rw [← g2]; exact List.mem_flatten.2 ⟨x, hx, hc⟩
  have hvL := List.all_eq_true.1 hv
  have h13 : ∀ x ∈ ls, (13 : UInt8) ∉ x := fun x hx hc => by
    have := hmem x hx 13 hc
    simp at this
    have := hvL 13 this
    revert this; decide
  have hxs : ∀ x ∈ ls, x.length ≤ 100000 := fun x hx => by
    obtain ⟨a, b, rfl⟩ := List.append_of_mem hx
    have := congrArg List.length g2
    simp at this
    omega
  have hJ := flat_join ls g1
  obtain ⟨J, hJe⟩ : ∃ J, Lib.join ls [13, 10] = J := ⟨_, rfl⟩
  rw [hJe] at hJ
  have hJl : J.length ≤ 1000000 := by
    have := congrArg List.length hJ
    rw [List.length_append] at this
    omega
  have hsp : Lib.split J [13, 10] = ls := by rw [← hJe]; exact split_parts ls g1 h13
  have h3 : Ev (fun k => postriderlaw07_HeadFolds.j3 k (B v) false (B [84, 111]) (B (trimL v)) (B (flat ls))) true := by
    refine Ev.eq (fun k => ?_) (chk_l2 g3 g4 hxs ls.length 0 (by omega))
    simp only [postriderlaw07_HeadFolds.j3]
    rw [if_neg (by simp), hJ, trimsuf_f hJl, Option.bind_some, split_crlf (by rw [B_size]; omega), L_B, hsp, Option.bind_some]
    have hjn : strings_Join.f (ls.map B) (⟨#[]⟩ : ByteArray) = some (B (84 :: 111 :: 58 :: 32 :: v)) := by
      cases ls with
      | nil => exact absurd rfl g1
      | cons a t =>
        have e := join_flat (a :: t)
        rw [join_f (by omega) (by rw [show L (⟨#[]⟩ : ByteArray) = [] from rfl, e, g2]; simp; omega), show L (⟨#[]⟩ : ByteArray) = [] from rfl, e, g2]
    rw [hjn, Option.bind_some, if_pos (by rw [B_size]; omega), if_pos (by rw [toL, toL, L_app, L_B, L_B]; rfl)]
    rfl
  refine Ev.with g5 h3 (fun k hk => ?_)
  simp only [postriderlaw07_HeadFolds.j2]
  have h2 := trim_sp hv
  rw [if_pos (by omega)] at h2
  rw [hk, Option.bind_some, if_pos rfl, if_pos (by rw [toL, L_B]), h2, Option.bind_some, if_pos rfl, suf_f (by rw [B_size]; omega), L_B, show L (⟨#[13, 10]⟩ : ByteArray) = [13, 10] from rfl, hJ, (suffix_trim J).1]
  rw [← hJ]
  rfl
def ltC (c : UInt8) : Bool := decide (97 ≤ c.toNat) && decide (c.toNat ≤ 122)
theorem lt_v {c : UInt8} (h : ltC c = true) : vC c = true := by
  unfold vC; unfold ltC at h; rw [h]; rfl
theorem nums_B (l : List UInt8) : Kd.numsOf (B l) = nmx l := by unfold Kd.numsOf nmx; rw [show (B l).data.toList = l from L_B l]
theorem in_l1 {a1 wl : Int} {v : List UInt8} {j : Int} {ws : List ByteArray} {n : Nat} (hn : n ≤ 40)
    (cont : ∀ y : List UInt8, y.all ltC = true → y.length = n → Ev (fun k => postriderlaw07_HeadFolds.l1 k a1 (B v) j (nmx y) ws wl j (n : Int) (n : Int)) true) :
    ∀ (d i : Nat) (x : List UInt8), i + d = n → x.length = n → (∀ q c, q < i → x[q]? = some c → ltC c = true) → Ev (fun k => postriderlaw07_HeadFolds.l1 k a1 (B v) j (nmx x) ws wl j (n : Int) (i : Int)) true := by
  intro d
  induction d with
  | zero =>
    intro i x hi hx hq
    obtain rfl : i = n := by omega
    exact cont x (List.all_eq_true.2 fun c hc => by
      obtain ⟨q, h1, h2⟩ := List.mem_iff_getElem.1 hc
      exact hq q c (by omega) (by rw [List.getElem?_eq_getElem h1, h2])) hx
  | succ d ih =>
    intro i x hi hx hq
    have hlt : i < x.length := by omega
    have hm : (97 + (x[i]'hlt).toNat % 26) < 256 := by omega
    have e1 : (97 + Int.tmod (rd (nmx x) (i : Int)) 26) % 256 = ((97 + (x[i]'hlt).toNat % 26 : Nat) : Int) := by
      have er : rd (nmx x) (i : Int) = ((x[i]'hlt).toNat : Int) := by
        unfold rd nmx
        rw [Int.toNat_natCast, List.getD_eq_getElem?_getD, List.getElem?_map, List.getElem?_eq_getElem hlt]; rfl
      rw [er, Int.tmod_eq_emod_of_nonneg (by omega)]
      omega
    have e2 : (nmx x).set i ((97 + (x[i]'hlt).toNat % 26 : Nat) : Int) = nmx (x.set i (UInt8.ofNat (97 + (x[i]'hlt).toNat % 26))) := by
      unfold nmx
      rw [List.map_set, UInt8.toNat_ofNat_of_lt' hm]
    have ew : wrap64 ((i : Int) + 1) = ((i + 1 : Nat) : Int) := w1 hlt (by omega)
    have ih2 := ih (i + 1) (x.set i (UInt8.ofNat (97 + (x[i]'hlt).toNat % 26))) (by omega) (by rw [List.length_set]; exact hx) (fun q c hq1 hq2 => by
      rw [List.getElem?_set] at hq2
      by_cases he : i = q
      · rw [if_pos he, if_pos hlt] at hq2
        obtain rfl := Option.some.inj hq2
        unfold ltC
        rw [UInt8.toNat_ofNat_of_lt' hm]
        simp; omega
      · rw [if_neg he] at hq2
        exact hq q c (by omega) hq2)
    refine Ev.eq (fun k => ?_) ih2
    simp only [postriderlaw07_HeadFolds.l1]
    rw [if_pos (by omega), if_pos (by omega), if_pos (by rw [nmx_len]; omega), Int.toNat_natCast, e1, e2, ew]
theorem out_l0 {a1 : Int} {ws : List ByteArray} (hw : ws.length ≤ 9223372036854775807) : ∀ (d j : Nat) (v : List UInt8), j + d = 60 → v.all vC = true → v.length ≤ 42 * j →
    Ev (fun k => postriderlaw07_HeadFolds.l0 k a1 (B v) ws (ws.length : Int) (j : Int)) true := by
  have fin : ∀ (j : Nat) (v : List UInt8), j ≤ 60 → v.all vC = true → v.length ≤ 42 * j → (ws.length ≤ j ∨ j = 60) → Ev (fun k => postriderlaw07_HeadFolds.l0 k a1 (B v) ws (ws.length : Int) (j : Int)) true := by
    intro j v hj hv hl hc
    refine Ev.eq (fun k => ?_) (j2_f hv (by omega))
    simp only [postriderlaw07_HeadFolds.l0]
    by_cases h : ws.length ≤ j
    · rw [if_neg (by omega)]
    · rw [if_pos (by omega), if_pos (by omega), if_pos (by omega), if_pos (by omega)]
  intro d
  induction d with
  | zero => intro j v hj hv hl; exact fin j v (by omega) hv hl (.inr (by omega))
  | succ d ih =>
    intro j v hj hv hl
    by_cases h : ws.length ≤ j
    · exact fin j v (by omega) hv hl (.inl h)
    · obtain ⟨s, hs⟩ : ∃ s, rdOf ByteArray.empty ws (j : Int) = s := ⟨_, rfl⟩
      have e40 : s.extract 0 (mn (s.size : Int) 40).toNat = B ((L s).take 40) := firsts s 40
      have hm := mn_le (s.size : Int) 40
      obtain ⟨w, hwe⟩ : ∃ w, (L s).take 40 = w := ⟨_, rfl⟩
      have hwl : w.length ≤ 40 := by rw [← hwe, List.length_take]; omega
      have ew : wrap64 ((j : Int) + 1) = ((j + 1 : Nat) : Int) := by rw [wk (by omega) (by omega)]; omega
      have hin := in_l1 (a1 := a1) (wl := (ws.length : Int)) (v := v) (j := (j : Int)) (ws := ws) hwl (fun y hy hyl => by
        have n1 := ih (j + 1) (v ++ (y ++ [44])) (by omega) (by
          rw [List.all_append, List.all_append, hv, List.all_eq_true.2 (fun c hc => lt_v (List.all_eq_true.1 hy c hc))]; decide) (by simp; omega)
        have n2 := ih (j + 1) ((v ++ (y ++ [44])) ++ [32]) (by omega) (by
          rw [List.all_append, List.all_append, List.all_append, hv, List.all_eq_true.2 (fun c hc => lt_v (List.all_eq_true.1 hy c hc))]; decide) (by simp; omega)
        have b1 : B y ++ (⟨#[44]⟩ : ByteArray) = B (y ++ [44]) := B_app y [44]
        have b2 : B (v ++ (y ++ [44])) ++ (⟨#[32]⟩ : ByteArray) = B ((v ++ (y ++ [44])) ++ [32]) := B_app _ [32]
        by_cases hb : Go.bits .and .u64 (shr .u64 a1 (j : Int)) 1 = 0
        · refine Ev.eq (fun k => ?_) n2
          simp only [postriderlaw07_HeadFolds.l1]
          rw [if_neg (by omega), str_nmx, b1, B_app, b2, if_pos (by rw [B_size]; omega), if_pos (by rw [B_size, B_size]; simp; omega), if_pos (by omega), if_pos hb, if_pos (by rw [B_size]; simp; omega), ew]
        · refine Ev.eq (fun k => ?_) n1
          simp only [postriderlaw07_HeadFolds.l1]
          rw [if_neg (by omega), str_nmx, b1, B_app, if_pos (by rw [B_size]; omega), if_pos (by rw [B_size, B_size]; simp; omega), if_pos (by omega), if_neg hb, ew]) w.length 0 w (by omega) rfl (fun q c hq => by omega)
      refine Ev.eq (fun k => ?_) hin
      simp only [postriderlaw07_HeadFolds.l0]
      rw [if_pos (by omega), if_pos (by omega), if_pos (by omega), if_neg (by omega), hs, e40, hwe, if_pos (by omega), if_pos (by omega), if_pos (by rw [B_size]; omega), Option.bind_some, nums_B, nmx_len]
      rfl
theorem HeadFolds : postriderlaw07_HeadFolds.Pure := by
  intro l0 a1 h0 h1 h2
  have hM : maxLen = 9223372036854775807 := rfl
  apply Ev.to
  unfold postriderlaw07_HeadFolds.f
  exact out_l0 (by omega) 60 0 [] rfl rfl (by simp)
end Go.Proofs.YtdciiahlakgikaaDoor.Pure
