/- Of any text and any byte: parts joined by the byte are the text, and have none of it; lower twice is lower once, and changes no length; a dot-atom is what atoms are, parted at points; what is trimmed has no white space at its ends; an atom is plain, and quoted has two bytes more (the first 150 bytes). -/
import Derived.Test.YtfeihligcondgaaDoorX
import Derived.Test.YtfeihligcondgaaDoorK
import Derived.Lib.IndexMore
import Derived.Lib.Join
import Derived.Test.YtfeihligcondgaaDoorQx2
import Derived.Test.YtfeihligcondgaaDoorQx8
namespace Go.Proofs.YtfeihligcondgaaDoor.Pure
open Go.RowKit Go.Proofs.YtfeihligcondgaaDoor.Q Go.Proofs.YtfeihligcondgaaDoor.S Go.Proofs.YtfeihligcondgaaDoorW.PrintWords Go.Proofs.YtfeihligcondgaaDoorW.PrintLast Go.Proofs.YtfeihligcondgaaDoorW.PrintMore
set_option linter.unusedVariables false
set_option linter.unusedSimpArgs false
theorem sp_count (c : UInt8) : ∀ l cur : List UInt8, (spL c l cur).length = l.count c + 1
  | [], cur => by simp [spL]
  | x :: l, cur => by
    rw [spL]
    by_cases e : x = c
    · rw [if_pos e, List.length_cons, sp_count c l [], e, List.count_cons_self]
    · rw [if_neg e, sp_count c l _, List.count_cons_of_ne e]
theorem sp_head (c : UInt8) (l cur : List UInt8) : ∃ h t, spL c l cur = h :: t := by
  cases hs : spL c l cur with
  | nil => have := sp_count c l cur; rw [hs] at this; simp at this
  | cons h t => exact ⟨h, t, rfl⟩
theorem sp_join (c : UInt8) : ∀ l cur : List UInt8, Lib.join (spL c l cur) [c] = cur ++ l
  | [], cur => by rw [spL, Lib.join_one, List.append_nil]
  | x :: l, cur => by
    rw [spL]
    by_cases e : x = c
    · rw [if_pos e, Lib.join_cons]
      have := sp_join c l []
      obtain ⟨h, t, hs⟩ := sp_head c l []
      rw [hs, Lib.join_cons] at this
      rw [hs]
      have e2 : Lib.joinTail [c] (h :: t) = c :: (h ++ Lib.joinTail [c] t) := by simp [Lib.joinTail]
      rw [e2, this, e]; simp
    · rw [if_neg e, sp_join c l _]; simp
theorem sp_free (c : UInt8) : ∀ l cur : List UInt8, c ∉ cur → ∀ p ∈ spL c l cur, c ∉ p
  | [], cur, h, p, hp => by simp [spL] at hp; rw [hp]; exact h
  | x :: l, cur, h, p, hp => by
    rw [spL] at hp
    split at hp
    · rcases List.mem_cons.1 hp with rfl | hp
      · exact h
      · exact sp_free c l [] (by simp) p hp
    · rename_i e
      exact sp_free c l _ (by simp; exact ⟨h, fun q => e q.symm⟩) p hp
theorem ix_free {c : UInt8} : ∀ {l : List UInt8}, c ∉ l → Lib.indexByte l c = -1
  | [], _ => rfl
  | b :: l, h => by
    simp at h
    unfold Lib.indexByte
    rw [if_neg (by simp; exact fun e => h.1 e.symm), ix_free h.2]; rfl
theorem low_idem (l : List UInt8) : (l.map lowC).map lowC = l.map lowC := by
  rw [List.map_map]
  congr 1
  funext c
  have : ∀ n, n < 256 → lowC (lowC (UInt8.ofNat n)) = lowC (UInt8.ofNat n) := by decide +kernel
  have h := this c.toNat (UInt8.toNat_lt c)
  rwa [UInt8.ofNat_toNat] at h
theorem trim_part (l : List UInt8) : ∃ a b, l = a ++ trimL l ++ b := by
  have h1 := List.takeWhile_append_dropWhile (p := blC) (l := l)
  have h2 := List.takeWhile_append_dropWhile (p := blC) (l := (l.dropWhile blC).reverse)
  have h3 := congrArg List.reverse h2
  rw [List.reverse_append, List.reverse_reverse] at h3
  refine ⟨l.takeWhile blC, ((l.dropWhile blC).reverse.takeWhile blC).reverse, ?_⟩
  unfold trimL
  rw [List.append_assoc, h3, h1]
theorem dropW_head {p : UInt8 → Bool} : ∀ {l : List UInt8}, (∀ x, l.head? = some x → p x = false) → l.dropWhile p = l
  | [], _ => rfl
  | a :: l, h => by rw [List.dropWhile_cons, if_neg (by simp [h a rfl])]
theorem trim_idem (l : List UInt8) : trimL (trimL l) = trimL l := by
  have hf : ∀ x, (trimL l).head? = some x → blC x = false := by
    intro x hx
    have e : trimL l = (l.reverse.dropWhile blC).reverse.dropWhile blC := (trim_both blC l).symm
    rw [e] at hx
    have := List.head?_dropWhile_not blC (l.reverse.dropWhile blC).reverse
    rw [hx] at this
    simpa using this
  have hl : ∀ x, (trimL l).reverse.head? = some x → blC x = false := by
    intro x hx
    unfold trimL at hx
    rw [List.reverse_reverse] at hx
    have := List.head?_dropWhile_not blC (l.dropWhile blC).reverse
    rw [hx] at this
    simpa using this
  show (((trimL l).dropWhile blC).reverse.dropWhile blC).reverse = trimL l
  rw [dropW_head hf, dropW_head hl, List.reverse_reverse]
theorem has_part (a m b : List UInt8) : Lib.contains (a ++ m ++ b) m = true := by
  unfold Lib.contains
  rw [decide_eq_true_eq]
  rcases Lib.index_spec (a ++ m ++ b) m with ⟨_, h⟩ | ⟨i, h, _⟩
  · have := h a.length (by simp)
    unfold Lib.occAt at this
    rw [List.append_assoc, List.drop_left, Bool.eq_false_iff] at this
    exact absurd (List.isPrefixOf_iff_prefix.2 ⟨b, rfl⟩) this
  · rw [h]; omega
theorem atom_plain (l : List UInt8) (h : l.all letC = true) : l.all plC = true ∧ (qtM l).length = l.length := by
  have key : ∀ n, n < 256 → letC (UInt8.ofNat n) = true → plC (UInt8.ofNat n) = true ∧ qtC (UInt8.ofNat n) = [UInt8.ofNat n] := by decide +kernel
  have key2 : ∀ c : UInt8, letC c = true → plC c = true ∧ qtC c = [c] := by
    intro c hc
    have := key c.toNat (UInt8.toNat_lt c)
    rw [UInt8.ofNat_toNat] at this
    exact this hc
  induction l with
  | nil => exact ⟨rfl, rfl⟩
  | cons c l ih =>
    simp only [List.all_cons, Bool.and_eq_true] at h ⊢
    have h1 := key2 c h.1
    have h2 := ih h.2
    refine ⟨⟨h1.1, h2.1⟩, ?_⟩
    have e : qtM (c :: l) = qtC c ++ qtM l := by simp [qtM]
    rw [e, h1.2]; simp [h2.2]
theorem parts_j3 (x : ByteArray) (hx : x.size ≤ 150) : Ev (fun k => postriderlaw04_TextParts.j3 k x false) true := by
  have hq : text_Quote.f x = some (if (L x).all plC then (B (34 :: (qtM (L x) ++ [34])), 0) else (B [], 5)) := by
    unfold text_Quote.f
    rw [if_pos (by omega), show plainB x = (L x).all plC from rfl, show quoteB x = B (34 :: (qtM (L x) ++ [34])) from rfl]
    by_cases h : (L x).all plC
    · rw [if_pos h, if_pos h]
    · rw [if_neg h, if_neg h]; rfl
  have ha : text_Atom.f x = some (atomB x) := by unfold text_Atom.f; rw [if_pos (by omega)]
  refine Ev.eq (f := fun k => ((text_Quote.f x).bind fun bt211 => ((text_Atom.f x).bind fun t213 => (if t213 = true then (if bt211.2 = 0 then (if (bt211.1.size : Int) = (wrap64 ((x.size : Int) + 2)) then ((text_Plain.f x).bind fun t214 => (if t214 = true then ((postriderlaw04_tells.f k).bind fun t215 => (some t215)) else (some false))) else (some false)) else (some false)) else ((postriderlaw04_tells.f k).bind fun t216 => (some t216)))))) (fun k => by simp only [postriderlaw04_TextParts.j3]; rw [if_neg (by decide)]) ?_
  refine Ev.bindc hq (Ev.bindc ha ?_)
  cases hb : atomB x with
  | true =>
    have hb2 : (L x).all letC = true := by
      have : (!(L x).isEmpty && (L x).all letC) = true := hb
      simp only [Bool.and_eq_true] at this
      exact this.2
    obtain ⟨h1, h2⟩ := atom_plain (L x) hb2
    rw [if_pos h1]
    have hs : ((B (34 :: (qtM (L x) ++ [34]))).size : Int) = wrap64 ((x.size : Int) + 2) := by
      rw [B_size, wk (by omega) (by omega), List.length_cons, List.length_append, h2, L_len]; simp; omega
    have hpl : text_Plain.f x = some true := by rw [show text_Plain.f x = some ((L x).all plC) from rfl, h1]
    simp only [if_true, hs]
    refine Ev.bindc hpl ?_
    simp only [if_true]
    exact Ev.bind2 tells_f (Ev.pure _)
  | false =>
    simp only [Bool.false_eq_true, if_false]
    exact Ev.bind2 tells_f (Ev.pure _)
theorem parts_l1 (x : ByteArray) (hx : x.size ≤ 150) (ps : List ByteArray) (hp : ps.length ≤ 1000) (hps : ∀ p ∈ ps, p.size ≤ 1000) : ∀ (d j : Nat) (b : Bool), d + j = ps.length → (b && (ps.drop j).all atomB) = dtL (L x) true →
    Ev (fun k => postriderlaw04_TextParts.l1 k x b ps (ps.length : Int) (j : Int)) true := by
  intro d
  induction d with
  | zero =>
    intro j b h hb
    have hx' : x.size ≤ 70368744177 := by omega
    have hb2 : b = dtL (L x) true := by
      rw [← hb, List.drop_of_length_le (by omega)]; simp
    have hl := lower_f hx'
    have hls : (B ((L x).map lowC)).size = x.size := by rw [B_size, List.length_map, L_len]
    have hl2 := lower_f (x := B ((L x).map lowC)) (by omega)
    rw [L_B, low_idem] at hl2
    have ht := trim_f hx'
    obtain ⟨a, b2, hab⟩ := trim_part (L x)
    have hts : (B (trimL (L x))).size ≤ 150 := by
      rw [B_size]
      have := congrArg List.length hab
      rw [List.length_append, List.length_append, L_len] at this
      omega
    have ht2 := trim_f (x := B (trimL (L x))) (by omega)
    rw [L_B, trim_idem] at ht2
    have hsame : text_Same.f (B ((L x).map lowC)) x = some true := by
      unfold text_Same.f
      rw [hl2, hl]; simp
    have hcont : strings_Contains.f x (B (trimL (L x))) = some true := by
      unfold strings_Contains.f
      rw [if_pos (by omega)]
      have : Lib.contains (L x) (trimL (L x)) = true := by
        have h3 := has_part a (trimL (L x)) b2
        rw [← hab] at h3; exact h3
      rw [show (B (trimL (L x))).data.toList = trimL (L x) from L_B _]
      exact congrArg some this
    have htr : strings_Trim.f x (⟨#[32, 9]⟩ : ByteArray) = some (B (trimL (L x))) := by
      have := ht
      unfold text_Trim.f at this
      cases h3 : strings_Trim.f x (⟨#[32, 9]⟩ : ByteArray) with
      | none => rw [h3] at this; simp at this
      | some q => rw [h3] at this; simpa using this
    refine Ev.eq (f := fun k => ((text_DotAtom.f k x).bind fun t207 => (if (t207 != b) = true then (postriderlaw04_TextParts.j3 k x true) else (postriderlaw04_TextParts.j3 k x false)))) (fun k => ?_) (Ev.bind2 (dot_f hx') ?_)
    · simp only [postriderlaw04_TextParts.l1]
      rw [if_neg (by omega), hl]
      simp only [Option.bind_some]
      rw [ht]
      simp only [Option.bind_some]
      rw [hl2]
      simp only [Option.bind_some, if_true]
      rw [if_pos (by omega), hsame]
      simp only [Option.bind_some, if_true]
      rw [hcont]
      simp only [Option.bind_some, if_true]
      rw [ht2]
      simp only [Option.bind_some, if_true]
      rw [htr]
      simp only [Option.bind_some, bne_self_eq_false]
    · rw [hb2]
      simp only [bne_self_eq_false, Bool.false_eq_true, if_false]
      exact parts_j3 x hx
  | succ d ih =>
    intro j b h hb
    have hj : j < ps.length := by omega
    have ew := w1 (n := j) (m := ps.length) hj (by omega)
    have hd := List.drop_eq_getElem_cons hj
    have hrd : rdOf ByteArray.empty ps (j : Int) = ps[j] := by simp [rdOf, hj]
    have hsz := hps ps[j] (List.getElem_mem hj)
    have ha : text_Atom.f ps[j] = some (atomB ps[j]) := by unfold text_Atom.f; rw [if_pos (by omega)]
    rw [hd, List.all_cons] at hb
    cases b with
    | true =>
      refine Ev.eq (f := fun k => postriderlaw04_TextParts.l1 k x (atomB ps[j]) ps (ps.length : Int) ((j + 1 : Nat) : Int)) (fun k => ?_) (ih (j + 1) (atomB ps[j]) (by omega) (by rw [← hb]; simp))
      simp only [postriderlaw04_TextParts.l1]
      rw [if_pos (by omega), if_pos (by omega), if_pos (by omega), hrd, ha, ew]
      simp only [Option.bind_some, if_true]
    | false =>
      refine Ev.eq (f := fun k => postriderlaw04_TextParts.l1 k x false ps (ps.length : Int) ((j + 1 : Nat) : Int)) (fun k => ?_) (ih (j + 1) false (by omega) (by rw [← hb]; simp))
      simp only [postriderlaw04_TextParts.l1]
      rw [if_pos (by omega), if_pos (by omega), if_pos (by omega), ew]
      simp only [Bool.false_eq_true, if_false]
theorem parts_l0 (x : ByteArray) (hx : x.size ≤ 150) (c : UInt8) (ps : List ByteArray) (hp : ps.length ≤ 1000) (hps : ∀ p ∈ ps, c ∉ L p) : ∀ (d j : Nat), d + j = ps.length →
    Ev (fun k => postriderlaw04_TextParts.l0 k x (c.toNat : Int) ps (ps.length : Int) (j : Int)) true := by
  intro d
  induction d with
  | zero =>
    intro j h
    refine Ev.eq (f := fun k => (text_Split.f k x 46).bind fun t198 => (postriderlaw04_TextParts.l1 k x true t198 (t198.length : Int) 0)) (fun k => ?_) (Ev.bind2 (split_f (c := 46) (by omega)) ?_)
    · simp only [postriderlaw04_TextParts.l0]
      rw [if_neg (by omega)]
    · refine parts_l1 x hx _ ?_ ?_ _ 0 true rfl ?_
      · rw [List.length_map]; have := sp_len 46 (L x) []; rw [L_len] at this; omega
      · intro p hp2
        obtain ⟨q, hq, rfl⟩ := List.mem_map.1 hp2
        have := sp_small 46 (L x) [] q hq
        rw [L_len] at this
        simp only [List.length_nil, Nat.zero_add] at this
        rw [B_size]; omega
      · rw [List.drop_zero, Bool.true_and, List.all_map]
        have e := sp_dot (L x) [] rfl
        rw [show ([] : List UInt8).isEmpty = true from rfl] at e
        rw [← e]; rfl
  | succ d ih =>
    intro j h
    have hj : j < ps.length := by omega
    have ew := w1 (n := j) (m := ps.length) hj (by omega)
    have hrd : rdOf ByteArray.empty ps (j : Int) = ps[j] := by simp [rdOf, hj]
    have hf := hps ps[j] (List.getElem_mem hj)
    have hi : strings_IndexByte.f ps[j] (c.toNat : Int) = some (-1) := by
      unfold strings_IndexByte.f
      rw [Int.toNat_natCast, show c.toNat.toUInt8 = c by simp, show ps[j].data.toList = L ps[j] from rfl, ix_free hf]
    refine Ev.eq (f := fun k => postriderlaw04_TextParts.l0 k x (c.toNat : Int) ps (ps.length : Int) ((j + 1 : Nat) : Int)) (fun k => ?_) (ih (j + 1) (by omega))
    simp only [postriderlaw04_TextParts.l0]
    rw [if_pos (by omega), if_pos (by omega), if_pos (by omega), hrd, hi, ew]
    rfl
theorem TextParts : postriderlaw04_TextParts.Pure := by
  intro a0 a1 h0 h1
  have hm := mn_le (a0.size : Int) 150
  have hn := mn_nat a0.size 150
  have ha1 : 0 ≤ a1 ∧ a1 ≤ 255 := by simpa [Lit.wf, IntKind.min, IntKind.max, IntKind.signed, IntKind.bits] using h1
  obtain ⟨c, rfl⟩ : ∃ c : UInt8, a1 = (c.toNat : Int) := ⟨UInt8.ofNat a1.toNat, by rw [UInt8.toNat_ofNat']; omega⟩
  obtain ⟨x, hx⟩ : ∃ x, x = a0.extract 0 ((mn (a0.size : Int) 150) : Int).toNat := ⟨_, rfl⟩
  have hxs : x.size ≤ 150 := by rw [hx, ByteArray.size_extract]; omega
  apply Ev.to
  unfold postriderlaw04_TextParts.f
  rw [← hx]
  have k1 : 0 ≤ mn (a0.size : Int) 150 := by omega
  have k2 : mn (a0.size : Int) 150 ≤ (a0.size : Int) := by omega
  simp only [k1, k2, if_true]
  have hsc : strOfNums [(c.toNat : Int)] = B [c] := by simp [strOfNums, B]
  have hlen : ((spL c (L x) []).map B).length ≤ 1000 := by
    rw [List.length_map]; have := sp_len c (L x) []; rw [L_len] at this; omega
  refine Ev.bind2 (split_f (c := c) (by omega)) ?_
  rw [hsc]
  have hcnt : strings_Count.f x (B [c]) = some (((L x).count c : Nat) : Int) := rfl
  refine Ev.bindc hcnt ?_
  have hcl : (L x).count c ≤ 150 := by have := List.count_le_length (a := c) (l := L x); rw [L_len] at this; omega
  have e1 : (((spL c (L x) []).map B).length : Int) = wrap64 ((((L x).count c : Nat) : Int) + 1) := by
    rw [List.length_map, sp_count, wk (by omega) (by omega)]; omega
  simp only [e1, if_true]
  have hj : strings_Join.f ((spL c (L x) []).map B) (B [c]) = some x := by
    obtain ⟨h, t, hs⟩ := sp_head c (L x) []
    have hjj : Lib.join (((spL c (L x) []).map B).map (·.data.toList)) (B [c]).data.toList = L x := by
      have e2 : ((spL c (L x) []).map B).map (·.data.toList) = spL c (L x) [] := by
        rw [List.map_map]
        have : (fun b : ByteArray => b.data.toList) ∘ B = id := by funext q; exact L_B q
        rw [this, List.map_id]
      rw [e2, show (B [c]).data.toList = [c] from L_B _, sp_join]; rfl
    have hlen2 : ((spL c (L x) []).map B).length ≤ 140737488355328 := by omega
    rw [hs, List.map_cons] at hjj hlen2 ⊢
    unfold strings_Join.f
    dsimp only
    rw [if_pos ⟨hlen2, by rw [hjj, L_len]; omega⟩, hjj]
    exact congrArg some (B_L x)
  refine Ev.bindc hj ?_
  simp only [bne_self_eq_false]
  refine Ev.eq (f := fun k => postriderlaw04_TextParts.l0 k x (c.toNat : Int) ((spL c (L x) []).map B) ((((spL c (L x) []).map B).length : Nat) : Int) ((0 : Nat) : Int)) (fun k => ?_) (parts_l0 x hxs c _ hlen ?_ _ 0 rfl)
  · simp only [postriderlaw04_TextParts.j0]
    rfl
  · intro p hp
    obtain ⟨q, hq, rfl⟩ := List.mem_map.1 hp
    rw [L_B]
    exact sp_free c (L x) [] (by simp) q hq
end Go.Proofs.YtfeihligcondgaaDoor.Pure
