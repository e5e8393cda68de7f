/- The text that the law makes of its lines: fields and a body, as rows of lines. -/
import Derived.Test.YtdciiahlakgikaaDoorHB
import Derived.Test.YtdciiahlakgikaaDoorQx7
namespace Go.Proofs.YtdciiahlakgikaaDoor.S
open Go.RowKit Go.Proofs.YtdciiahlakgikaaDoor.Q Go.Proofs.YtdciiahlakgikaaDoorW.PrintWords Go.Proofs.YtdciiahlakgikaaDoorW.PrintLast Go.Proofs.YtdciiahlakgikaaDoorW.PrintMore
set_option linter.unusedVariables false
set_option linter.unusedSimpArgs false
def bA (c : UInt8) : UInt8 := UInt8.ofNat (mdA (c.toNat : Int)).toNat
def bB (c : UInt8) : UInt8 := UInt8.ofNat (mdB (c.toNat : Int)).toNat
theorem bA_num (c : UInt8) : ((bA c).toNat : Int) = mdA (c.toNat : Int) := byte_all (p := fun c => ((bA c).toNat : Int) = mdA (c.toNat : Int)) (by decide +kernel) c
theorem bB_num (c : UInt8) : ((bB c).toNat : Int) = mdB (c.toNat : Int) := byte_all (p := fun c => ((bB c).toNat : Int) = mdB (c.toNat : Int)) (by decide +kernel) c
theorem bA_fn (c : UInt8) : fnC (bA c) = true := byte_all (p := fun c => fnC (bA c) = true) (by decide +kernel) c
def vlC (c : UInt8) : Bool := decide (32 ≤ c.toNat) && decide (c.toNat ≤ 126)
theorem bB_vl (c : UInt8) : vlC (bB c) = true := byte_all (p := fun c => vlC (bB c) = true) (by decide +kernel) c
theorem vl_rg (c : UInt8) : vlC c = true → rgC c = true := byte_all (p := fun c => vlC c = true → rgC c = true) (by decide +kernel) c
theorem vl_bl (c : UInt8) : vlC c = true → [32].contains c = blC c := byte_all (p := fun c => vlC c = true → [32].contains c = blC c) (by decide +kernel) c
theorem vl_map (l : List UInt8) : (l.map bB).all vlC = true := by
  rw [List.all_eq_true]; intro c hc
  obtain ⟨d, _, rfl⟩ := List.mem_map.1 hc
  exact bB_vl d
theorem vl_rgL {l : List UInt8} (h : l.all vlC = true) : rgL l = true := List.all_eq_true.2 (fun c hc => vl_rg c (List.all_eq_true.1 h c hc))
theorem nums_map {f : Int → Int} {g : UInt8 → UInt8} (h : ∀ c, ((g c).toNat : Int) = f (c.toNat : Int)) (s : ByteArray) : (Kd.numsOf s).map f = nmx ((L s).map g) := by
  unfold Kd.numsOf nmx L
  rw [List.map_map, List.map_map]
  exact List.map_congr_left (fun c _ => (h c).symm)
/-- A line's name and value. -/
def nmL (x : S111) : List UInt8 := (70 :: (L x.f0).take 20).map bA
def vaL (x : S111) : List UInt8 := ((L x.f1).take 200).map bB
def ctL (x : S111) : Nat := min x.f2.toNat (vaL x).length
def lnL (x : S111) : List (List UInt8) := [nmL x ++ (58 :: (vaL x).take (ctL x)), 9 :: (vaL x).drop (ctL x)]
theorem ext_min (s : ByteArray) (n : Nat) : L (s.extract 0 (min s.size n)) = (L s).take n := by
  rw [L_ext, List.drop_zero, Nat.sub_zero]
  rcases Nat.le_total s.size n with h | h
  · rw [Nat.min_eq_left h, List.take_of_length_le (by rw [L_len]; omega), List.take_of_length_le (by rw [L_len]; omega)]
  · rw [Nat.min_eq_right h]
theorem md_name (x : S111) : mdName x = B (nmL x) := by
  unfold mdName
  rw [nums_map bA_num, str_nmx, L_app, ext_min]; rfl
theorem md_val (x : S111) : mdVal x = nmx (vaL x) := by
  unfold mdVal
  rw [nums_map bB_num, ext_min]; rfl
theorem nmx_take (l : List UInt8) (n : Nat) : (nmx l).take n = nmx (l.take n) := by unfold nmx; rw [List.map_take]
theorem nmx_drop (l : List UInt8) (n : Nat) : (nmx l).drop n = nmx (l.drop n) := by unfold nmx; rw [List.map_drop]
theorem md_line (x : S111) : L (mdLine x) = flat (lnL x) := by
  unfold mdLine
  have hc : mdCut x = ctL x := by unfold mdCut ctL; rw [md_val, nmx_len]
  rw [md_val, hc, md_name, nmx_take, nmx_drop, str_nmx, str_nmx]
  simp only [L_app, L_B]
  rw [show L (⟨#[58]⟩ : ByteArray) = [58] from rfl, show L (⟨#[13, 10, 9]⟩ : ByteArray) = [13, 10, 9] from rfl, show L (⟨#[13, 10]⟩ : ByteArray) = [13, 10] from rfl]
  simp [flat, lnL]
theorem nm_fn (x : S111) : fnL (nmL x) = true := by
  unfold fnL nmL
  rw [List.map_cons, Bool.and_eq_true]
  refine ⟨rfl, ?_⟩
  rw [← List.map_cons, List.all_eq_true]; intro c hc
  obtain ⟨d, _, rfl⟩ := List.mem_map.1 hc
  exact bA_fn d
theorem nm_col (x : S111) : (nmL x).all col = true := by
  have h := nm_fn x
  unfold fnL at h; simp only [Bool.and_eq_true] at h
  exact List.all_eq_true.2 (fun c hc => fn_col c (List.all_eq_true.1 h.2 c hc))
theorem va_vl (x : S111) : (vaL x).all vlC = true := vl_map _
theorem sub_rg {l m : List UInt8} (h : rgL l = true) (hs : ∀ c ∈ m, c ∈ l) : rgL m = true := List.all_eq_true.2 (fun c hc => List.all_eq_true.1 h c (hs c hc))
theorem ln_gd (x : S111) : GdL (lnL x) := by
  have hv := vl_rgL (va_vl x)
  refine ⟨_, _, rfl, ?_, ?_, ?_⟩
  · show ((nmL x ++ (58 :: (vaL x).take (ctL x))).any (· == 58) && fnL (rdL ((nmL x ++ (58 :: (vaL x).take (ctL x))).takeWhile col))) = true
    rw [tw_all col _ _ (nm_col x)]
    have e : (58 :: (vaL x).take (ctL x)).takeWhile col = [] := by rw [List.takeWhile_cons, if_neg (by decide)]
    rw [e, List.append_nil, rd_name (nm_fn x), nm_fn x]
    simp
  · intro y hy
    simp only [lnL, List.mem_cons, List.not_mem_nil, or_false] at hy
    rcases hy with rfl | rfl
    · have h1 := nm_fn x
      unfold fnL at h1; simp only [Bool.and_eq_true] at h1
      unfold rgL
      rw [List.all_append, List.all_cons, Bool.and_eq_true, Bool.and_eq_true]
      exact ⟨List.all_eq_true.2 (fun c hc => fn_rgC c (List.all_eq_true.1 h1.2 c hc)), by decide, sub_rg hv (fun c hc => List.mem_of_mem_take hc)⟩
    · unfold rgL
      rw [List.all_cons, Bool.and_eq_true]
      exact ⟨by decide, sub_rg hv (fun c hc => List.mem_of_mem_drop hc)⟩
  · intro y hy
    simp only [List.mem_cons, List.not_mem_nil, or_false] at hy
    rw [hy]; rfl
/-- What its field says. -/
def fvL (x : S111) : List UInt8 := trimL ((vaL x).take (ctL x) ++ (9 :: (vaL x).drop (ctL x)))
theorem ln_fd (x : S111) : (fdV (lnL x)).1 = nmL x ∧ (fdV (lnL x)).2.1 = fvL x := fd_name (nm_fn x) (by simp [lnL])
theorem nm_len (x : S111) : (nmL x).length ≤ 21 := by unfold nmL; rw [List.length_map, List.length_cons, List.length_take]; omega
theorem va_len (x : S111) : (vaL x).length ≤ 200 := by unfold vaL; rw [List.length_map, List.length_take]; omega
theorem ln_len (x : S111) : (flat (lnL x)).length ≤ 227 := by
  have h1 := nm_len x
  have h2 := va_len x
  rw [flat_le]
  simp only [lnL, List.flatten_cons, List.flatten_nil, List.append_nil, List.length_append, List.length_cons, List.length_nil, List.length_take, List.length_drop]
  omega
/-! ### The body -/
def rwL (p : ByteArray) : List UInt8 := (L p).map bB
theorem md_row (p : ByteArray) : L (mdRow p) = rwL p ++ [13, 10] := by
  unfold mdRow
  rw [nums_map bB_num, str_nmx, L_app, L_B]; rfl
theorem md_body (ps : List ByteArray) : mdBody ps ps.length = flat (ps.map rwL) := by
  unfold mdBody flat
  rw [List.take_length, List.map_map]
  congr 1
  exact List.map_congr_left (fun p _ => md_row p)
theorem parts_sum {sep : ByteArray} (hs : sep.size = 1) : ∀ (k : Nat) (s : ByteArray), ((Lib.splitB sep 1 k s).map ByteArray.size).sum = s.size
  | 0, s => by simp [Lib.splitB_zero]
  | k + 1, s => by
    rcases Lib.indexB_cases s sep with h | ⟨i, h, hi⟩
    · rw [Lib.splitB_miss sep 1 _ s h]; simp
    · rw [Lib.splitB_hit sep 1 k s i h, List.map_cons, List.sum_cons, parts_sum hs k, hs, ByteArray.size_extract, ByteArray.size_extract]
      omega
theorem rows_len : ∀ ps : List ByteArray, ((ps.map rwL).flatten).length = (ps.map ByteArray.size).sum
  | [] => rfl
  | p :: ps => by rw [List.map_cons, List.flatten_cons, List.length_append, rows_len ps, List.map_cons, List.sum_cons]; unfold rwL; rw [List.length_map, L_len]
theorem body_len (a1 : ByteArray) : (flat ((mdParts a1).map rwL)).length ≤ 2402 := by
  have h1 : (⟨#[120]⟩ : ByteArray).size = 1 := rfl
  have hsz : (a1.extract 0 (min a1.size 800)).size ≤ 800 := by rw [ByteArray.size_extract]; omega
  have h2 := parts_sum h1 (Lib.countB (a1.extract 0 (min a1.size 800)) (⟨#[120]⟩ : ByteArray)) (a1.extract 0 (min a1.size 800))
  have h3 := Lib.splitB_all (⟨#[120]⟩ : ByteArray) (by decide) 1 _ (a1.extract 0 (min a1.size 800)) rfl
  have h4 := Lib.countB_le (⟨#[120]⟩ : ByteArray) (by decide) _ (a1.extract 0 (min a1.size 800)) (Nat.le_refl _)
  rw [flat_le, rows_len, List.length_map]
  unfold mdParts
  omega
theorem rw_rg (ps : List ByteArray) : ∀ x ∈ ps.map rwL, rgL x = true := by
  intro x hx
  obtain ⟨p, _, rfl⟩ := List.mem_map.1 hx
  exact vl_rgL (vl_map _)
/-- The text that is made. -/
def gsL (l0 : List S111) : List (List (List UInt8)) := (l0.take 12).map lnL
theorem gs_gd (l0 : List S111) : ∀ g ∈ gsL l0, GdL g := by
  intro g hg
  obtain ⟨x, _, rfl⟩ := List.mem_map.1 hg
  exact ln_gd x
theorem md_head (l0 : List S111) : mdHead l0 (min l0.length 12) = ((gsL l0).map flat).flatten := by
  unfold mdHead gsL
  have : l0.take (min l0.length 12) = l0.take 12 := by
    rcases Nat.le_total l0.length 12 with h | h
    · rw [Nat.min_eq_left h, List.take_length, List.take_of_length_le h]
    · rw [Nat.min_eq_right h]
  have e : (l0.take 12).map (fun x => (mdLine x).data.toList) = ((l0.take 12).map lnL).map flat := by
    rw [List.map_map]
    exact List.map_congr_left (fun x _ => md_line x)
  rw [this, e]
theorem md_text (l0 : List S111) (a1 : ByteArray) (a2 : Bool) : mdText l0 a1 a2 = B (mtL (gsL l0) a2 ((mdParts a1).map rwL)) := by
  unfold mdText mtL B
  rw [md_head, md_body]
theorem gs_len (l0 : List S111) : (gsL l0).length ≤ 12 := by unfold gsL; rw [List.length_map, List.length_take]; omega
theorem fl_len {n : Nat} : ∀ gs : List (List (List UInt8)), (∀ g ∈ gs, (flat g).length ≤ n) → ((gs.map flat).flatten).length ≤ n * gs.length
  | [], _ => by simp
  | g :: gs, h => by
    have h1 := h g (by simp)
    have h2 := fl_len gs (fun x hx => h x (List.mem_cons_of_mem _ hx))
    rw [List.map_cons, List.flatten_cons, List.length_append, List.length_cons, Nat.mul_add]
    omega
theorem gs_fl (l0 : List S111) : ∀ g ∈ gsL l0, (flat g).length ≤ 227 := by
  intro g hg
  obtain ⟨x, _, rfl⟩ := List.mem_map.1 hg
  exact ln_len x
end Go.Proofs.YtdciiahlakgikaaDoor.S
