/- Byte by byte: a message's text is the text that it was read of; a field laid ahead changes no byte of all others; one put in its place changes no byte of others; both are read as they are (any fields, the first 12, brought to such as may be, a body, brought to lines; a value; which one). -/
import Derived.Test.YtdciiahlakgikaaDoorHC
import Derived.Test.YtdciiahlakgikaaDoorWK
import Derived.Test.YtdciiahlakgikaaDoorQx0
import Derived.Test.YtdciiahlakgikaaDoorQx5
import Derived.Test.YtdciiahlakgikaaDoorQx7
namespace Go.Proofs.YtdciiahlakgikaaDoor.Pure
open Go.RowKit Go.Proofs.YtdciiahlakgikaaDoor.Q Go.Proofs.YtdciiahlakgikaaDoor.S Go.Proofs.YtdciiahlakgikaaDoorW.PrintWords Go.Proofs.YtdciiahlakgikaaDoorW.PrintLast Go.Proofs.YtdciiahlakgikaaDoorW.PrintMore
set_option linter.unusedVariables false
set_option linter.unusedSimpArgs false
abbrev LL := List (List UInt8)
def flL (gs : List LL) : List S41 := (gs.map fdV).map mkS
def bdL (e : Bool) (bl : LL) : List UInt8 := if e = true then [] else flat bl
theorem fl_length (gs : List LL) : (flL gs).length = gs.length := by unfold flL; rw [List.length_map, List.length_map]
theorem text_gs (gs : List LL) (e : Bool) (bl : LL) : headText (flL gs) (B (bdL e bl)) e = mtL gs e bl := by
  have h := headText_mk (gs.map fdV, bdL e bl, e)
  show headText ((gs.map fdV).map mkS) (B (bdL e bl)) e = _
  refine h.trans ?_
  unfold mtL bdL
  rw [List.map_map]
  have : (gs.map ((fun x : Fld => x.2.2) ∘ fdV)) = gs.map flat := rfl
  rw [this]
  cases e <;> rfl
theorem bd_len (e : Bool) (bl : LL) : (bdL e bl).length ≤ (flat bl).length := by unfold bdL; split <;> simp
theorem mt_len (gs : List LL) (e : Bool) (bl : LL) : (mtL gs e bl).length ≤ ((gs.map flat).flatten).length + (flat bl).length + 2 := by
  unfold mtL
  rw [List.length_append]
  split <;> simp only [List.length_nil, List.length_cons] <;> omega
theorem text_ev {gs : List LL} {e : Bool} {bl : LL} (h : (mtL gs e bl).length ≤ 8192) (hl : gs.length ≤ 100) (hb : (flat bl).length ≤ 8192) : head_Message_Text.f (flL gs) (B (bdL e bl)) e = some (B (mtL gs e bl)) := by
  have h1 := text_gs gs e bl
  have h2 := bd_len e bl
  rw [text_f (by rw [h1]; omega) (by rw [fl_length]; omega) (by rw [B_size]; omega), h1]
theorem may_gs {gs : List LL} {e : Bool} {bl : LL} (hg : ∀ g ∈ gs, GdL g) (hr : ∀ x ∈ bl, rgL x = true) (h : (mtL gs e bl).length ≤ 8192) : Ev (fun k => head_Message_May.f k (flL gs) (B (bdL e bl)) e) true :=
  may_read (l := mtL gs e bl) (m := (gs.map fdV, bdL e bl, e)) h (ms_text hg e hr)
theorem with_gs {gs : List LL} {e : Bool} {bl : LL} (l : List S41) (h : (mtL gs e bl).length ≤ 8192) (hl : gs.length ≤ 100) (hb : (flat bl).length ≤ 8192) : head_Message_with.f l (B (bdL e bl)) e (flL gs) = some (flL gs, B (bdL e bl), e, 0) := by
  unfold head_Message_with.f
  rw [text_ev h hl hb, Option.bind_some, if_neg (by rw [B_size]; omega)]
theorem dw_congr {p q : UInt8 → Bool} : ∀ l : List UInt8, (∀ x ∈ l, p x = q x) → l.dropWhile p = l.dropWhile q
  | [], _ => rfl
  | a :: l, h => by
    rw [List.dropWhile_cons, List.dropWhile_cons, h a (by simp), dw_congr l (fun x hx => h x (by simp [hx]))]
/-- A value of bytes that may stand there: trimmed of blanks alone. -/
theorem trim_vl {v : List UInt8} (h : v.all vlC = true) (hl : v.length ≤ 100000) : strings_Trim.f (B v) (⟨#[32]⟩ : ByteArray) = some (B (trimL v)) := by
  unfold strings_Trim.f
  rw [if_pos ⟨by rw [B_size]; omega, by decide, by decide⟩]
  have : Lib.trimS (B v).data.toList (⟨#[32]⟩ : ByteArray).data.toList = trimL v := by
    unfold Lib.trimS Lib.trimLeftS Lib.trimRightS
    simp only [show (⟨#[32]⟩ : ByteArray).data.toList = [32] from rfl, show (B v).data.toList = v from L_B v]
    have hv := List.all_eq_true.1 h
    have e1 : v.reverse.dropWhile (fun x => [32].contains x) = v.reverse.dropWhile blC := dw_congr _ (fun x hx => vl_bl x (hv x (by simpa using hx)))
    rw [show v.reverse.dropWhile ([32].contains ·) = v.reverse.dropWhile blC from e1]
    rw [show ((v.reverse.dropWhile blC).reverse.dropWhile ([32].contains ·)) = ((v.reverse.dropWhile blC).reverse.dropWhile blC) from dw_congr _ (fun x hx => vl_bl x (hv x (by
      have h1 := List.mem_reverse.1 hx
      have := (List.dropWhile_suffix (l := v.reverse) blC).subset h1
      simpa using this)))]
    exact trim_both blC v
  rw [this]; rfl
/-- A field's value: no line's end in it; trimmed already. -/
theorem fv_any {l : List UInt8} (h : ∀ c ∈ l, (32 ≤ c.toNat ∧ c.toNat < 128) ∨ c = 9) (hl : l.length ≤ 10000) : strings_ContainsAny.f (B l) (⟨#[13, 10]⟩ : ByteArray) = some false := by
  unfold strings_ContainsAny.f
  have h1 : ((B l).data.toList.all fun b => decide (b.toNat < 128)) = true := by
    rw [show (B l).data.toList = l from L_B l]
    exact List.all_eq_true.2 (fun c hc => by
      rcases h c hc with h1 | h1
      · simpa using h1.2
      · rw [h1]; decide)
  rw [if_pos ⟨by rw [B_size]; omega, by decide, h1, by decide⟩]
  congr 1
  unfold Lib.containsAny
  have : Lib.indexAny (B l).data.toList (⟨#[13, 10]⟩ : ByteArray).data.toList = -1 := by
    refine Lib.indexAny_none (fun j b hj hb => ?_)
    have hb' : b ∈ l := List.mem_of_getElem? (by simpa [B] using hb)
    have := h b hb'
    rw [← Bool.not_eq_true]
    intro hc
    simp at hc
    rcases hc with rfl | rfl <;> revert this <;> decide
  rw [this]; rfl
theorem fv_trim {l : List UInt8} (hl : l.length ≤ 10000) (h : trimL l = l) : strings_Trim.f (B l) (⟨#[32, 9]⟩ : ByteArray) = some (B l) := by
  unfold strings_Trim.f
  rw [if_pos ⟨by rw [B_size]; omega, by decide, by decide⟩]
  have : Lib.trimS (B l).data.toList (⟨#[32, 9]⟩ : ByteArray).data.toList = trimL l := by
    unfold Lib.trimS Lib.trimLeftS Lib.trimRightS
    simp only [show (⟨#[32, 9]⟩ : ByteArray).data.toList = [32, 9] from rfl, bl_has, show (B l).data.toList = l from L_B l]
    exact trim_both blC l
  rw [this, h]; rfl
theorem suf_mt (a t : List UInt8) (h : (a ++ t).length ≤ 100000) : strings_HasSuffix.f (B (a ++ t)) (B t) = some true := by
  unfold strings_HasSuffix.f stringslite_HasSuffix.f
  have hl : (a ++ t).length = a.length + t.length := List.length_append
  have ew : wrap64 (((B (a ++ t)).size : Int) - ((B t).size : Int)) = (a.length : Int) := by rw [B_size, B_size]; unfold wrap64; omega
  rw [ew, if_pos (by rw [B_size, B_size]; omega), if_pos (by omega), if_pos (by rw [B_size]; omega)]
  simp only [Option.bind_some]
  congr 1
  have : (B (a ++ t)).extract ((a.length : Int)).toNat (B (a ++ t)).size = B t := by
    rw [Int.toNat_natCast, ext_B, B_size, L_B, List.drop_left, List.take_of_length_le (by omega)]
  rw [this]; simp
theorem vl_num {c : UInt8} (h : vlC c = true) : 32 ≤ c.toNat ∧ c.toNat < 128 := by
  unfold vlC at h
  simp only [Bool.and_eq_true, decide_eq_true_eq] at h
  omega
theorem fv_num (x : S111) : ∀ c ∈ fvL x, (32 ≤ c.toNat ∧ c.toNat < 128) ∨ c = 9 := by
  intro c hc
  have h1 := trim_mem hc
  have hv := List.all_eq_true.1 (va_vl x)
  rcases List.mem_append.1 h1 with h2 | h2
  · exact .inl (vl_num (hv c (List.mem_of_mem_take h2)))
  · rcases List.mem_cons.1 h2 with h3 | h3
    · exact .inr h3
    · exact .inl (vl_num (hv c (List.mem_of_mem_drop h3)))
theorem trim_len (l : List UInt8) : (trimL l).length ≤ l.length := by
  unfold trimL
  have h1 := (List.dropWhile_suffix (l := l) blC).length_le
  have h2 := (List.dropWhile_suffix (l := (l.dropWhile blC).reverse) blC).length_le
  rw [List.length_reverse] at h2 ⊢
  omega
theorem fv_len (x : S111) : (fvL x).length ≤ 201 := by
  have h1 := va_len x
  unfold fvL
  refine Nat.le_trans (trim_len _) ?_
  simp only [List.length_append, List.length_cons, List.length_take, List.length_drop]
  omega
/-- The field of the j-th line. -/
theorem rd_fl (gs : List LL) (j : Nat) (h : j < gs.length) : rd_T41 (flL gs) (j : Int) = mkS (fdV (gs[j]'h)) := by
  rw [rdS (flL gs) j (by rw [fl_length]; exact h)]
  unfold flL
  rw [List.getElem_map, List.getElem_map]
theorem rd_names (l : List S111) (j : Nat) (h : j < l.length) : rdOf ByteArray.empty (l.map mdName) (j : Int) = B (nmL (l[j]'h)) := by
  unfold rdOf
  rw [Int.toNat_natCast, List.getD_eq_getElem?_getD, List.getElem?_eq_getElem (by rw [List.length_map]; exact h), Option.getD_some, List.getElem_map, md_name]
/-! ### The last part: a field put in its place -/
section
variable {ls : List S111} {e : Bool} {bl : LL} {a2 : ByteArray} {at_ : Int}
theorem put_j4 {gs : List LL} {g1 : LL} {i : Nat} (hi : i < gs.length) (hl : gs.length ≤ 100) (h : (mtL gs e bl).length ≤ 8192) (hb : (flat bl).length ≤ 8192) {w : ByteArray} {c : Bool} : Ev (fun k => postriderlaw07_HeadBytes.j4 k (B (mtL gs e bl)) (i : Int) false (flL gs) (B (bdL e bl)) e (flL (gs.set i g1)) w c) true := by
  have hfl := fl_length gs
  have hfl2 := fl_length (gs.set i g1)
  rw [List.length_set] at hfl2
  have ew := w1 (n := i) (m := gs.length) hi (by omega)
  have e1 : (flL (gs.set i g1)).take i = (flL gs).take i := by unfold flL; rw [List.map_set, List.map_set, List.take_set]; exact List.set_eq_of_length_le (by rw [List.length_take]; omega)
  have e2 : (flL (gs.set i g1)).drop (i + 1) = (flL gs).drop (i + 1) := by unfold flL; rw [List.map_set, List.map_set, List.drop_set, if_pos (by omega)]
  refine Ev.eq (f := fun k => (slices_Equal_head_Field_head_Field.f k ((flL gs).take i) ((flL gs).take i)).bind fun t321 => (if t321 = true then ((slices_Equal_head_Field_head_Field.f k ((flL gs).drop (i + 1)) ((flL gs).drop (i + 1))).bind fun t330 => (if t330 = true then ((postriderlaw07_wakes.f k).bind fun t332 => (some t332)) else (some false))) else (some false))) (fun k => ?_) ?_
  · simp only [postriderlaw07_HeadBytes.j4]
    rw [if_neg (by simp), if_pos (by omega), if_pos (by omega), if_pos (by omega), ew, if_pos (by omega), if_pos (by omega), if_pos (by omega), Int.toNat_natCast, Int.toNat_natCast, e1, e2, text_ev h hl hb]
    simp only [Option.bind_some, if_true]
  · refine Ev.bind2 (eqf (by rw [List.length_take]; omega)) ?_
    simp only [if_true]
    refine Ev.bind2 (eqf (by rw [List.length_drop]; omega)) ?_
    simp only [if_true]
    exact Ev.bind2 wakes_f (Ev.pure _)
end
end Go.Proofs.YtdciiahlakgikaaDoor.Pure
