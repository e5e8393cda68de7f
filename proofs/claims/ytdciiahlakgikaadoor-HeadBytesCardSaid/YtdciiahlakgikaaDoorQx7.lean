/- Walks of functions. -/
import Derived.Test.YtdciiahlakgikaaDoorQx0
import Derived.Test.YtdciiahlakgikaaDoorQx5
section
namespace Go.Proofs.YtdciiahlakgikaaDoor.Q
open Go.RowKit Go.Proofs.YtdciiahlakgikaaDoorW.PrintWords Go.Proofs.YtdciiahlakgikaaDoorW.PrintLast Go.Proofs.YtdciiahlakgikaaDoorW.PrintMore
attribute [local go_sem] max2_int min2_int max_two min_two max_three min_three max_four min_four   -- for this text's walks alone
set_option linter.unusedVariables false
set_option linter.unusedSimpArgs false

/-! ### postriderlaw07_made: function 35 (by hand) -/
attribute [local go_sem] max2_int min2_int max_two min_two max_three min_three max_four min_four
def mdA (v : Int) : Int := if 33 + Int.tmod v 94 = 58 then 99 else 33 + Int.tmod v 94
def mdB (v : Int) : Int := 32 + Int.tmod v 95
def mdName (x : S111) : ByteArray := strOfNums ((Kd.numsOf ((⟨#[70]⟩ : ByteArray) ++ x.f0.extract 0 (min x.f0.size 20))).map mdA)
def mdVal (x : S111) : List Int := (Kd.numsOf (x.f1.extract 0 (min x.f1.size 200))).map mdB
def mdCut (x : S111) : Nat := min x.f2.toNat (mdVal x).length
def mdLine (x : S111) : ByteArray := mdName x ++ (⟨#[58]⟩ : ByteArray) ++ strOfNums ((mdVal x).take (mdCut x)) ++ (⟨#[13, 10, 9]⟩ : ByteArray) ++ strOfNums ((mdVal x).drop (mdCut x)) ++ (⟨#[13, 10]⟩ : ByteArray)
def mdHead (l0 : List S111) (k : Nat) : List UInt8 := ((l0.take k).map (fun x => (mdLine x).data.toList)).flatten
def mdRow (b : ByteArray) : ByteArray := strOfNums ((Kd.numsOf b).map mdB) ++ (⟨#[13, 10]⟩ : ByteArray)
def mdParts (a1 : ByteArray) : List ByteArray := Lib.splitB (⟨#[120]⟩ : ByteArray) 1 (Lib.countB (a1.extract 0 (min a1.size 800)) (⟨#[120]⟩ : ByteArray)) (a1.extract 0 (min a1.size 800))
def mdBody (p : List ByteArray) (k : Nat) : List UInt8 := ((p.take k).map (fun x => (mdRow x).data.toList)).flatten
def mdText (l0 : List S111) (a1 : ByteArray) (a2 : Bool) : ByteArray := ⟨(mdHead l0 (min l0.length 12) ++ if a2 = true then [] else 13 :: 10 :: mdBody (mdParts a1) (mdParts a1).length).toArray⟩
theorem mdHead_succ (l0 : List S111) (k : Nat) (h : k < l0.length) : mdHead l0 (k + 1) = mdHead l0 k ++ (mdLine (rd_T111 l0 (k : Int))).data.toList := by
  unfold mdHead rd_T111
  rw [List.take_succ_eq_append_getElem h, List.map_append, List.flatten_append, Int.toNat_natCast, List.getD_eq_getElem?_getD, List.getElem?_eq_getElem h]
  simp
def mdBrush (f : Int → Int) (k : Nat) (xs : List Int) : List Int := (xs.take k).map f ++ xs.drop k
theorem mdBrush_length (f : Int → Int) (k : Nat) (xs : List Int) : (mdBrush f k xs).length = xs.length := by
  unfold mdBrush; rw [List.length_append, List.length_map, List.length_take, List.length_drop]; omega
theorem mdBrush_rd (f : Int → Int) (k : Nat) (xs : List Int) (h : k < xs.length) : rdOf (0 : Int) (mdBrush f k xs) (k : Int) = rdOf 0 xs (k : Int) := by
  unfold rdOf mdBrush
  rw [Int.toNat_natCast, List.getD_eq_getElem?_getD, List.getD_eq_getElem?_getD, List.getElem?_append_right (by rw [List.length_map, List.length_take]; omega), List.length_map, List.length_take, List.getElem?_drop]
  congr 2; omega
theorem mdBrush_set (f : Int → Int) (k : Nat) (xs : List Int) (h : k < xs.length) (y : Int) (hy : f (rdOf 0 xs (k : Int)) = y) : (mdBrush f k xs).set k y = mdBrush f (k + 1) xs := by
  subst hy
  have hx : rdOf (0 : Int) xs (k : Int) = xs[k] := by
    unfold rdOf
    rw [Int.toNat_natCast, List.getD_eq_getElem?_getD, List.getElem?_eq_getElem h]; rfl
  rw [hx]
  have e : xs.drop k = xs[k] :: xs.drop (k + 1) := (List.drop_eq_getElem_cons h)
  have hl : ((xs.take k).map f).length = k := by rw [List.length_map, List.length_take]; omega
  unfold mdBrush
  rw [e, List.set_append_right _ _ (by omega), hl, Nat.sub_self, List.set_cons_zero, List.take_succ_eq_append_getElem h, List.map_append, List.append_assoc]
  rfl
theorem mdBrush_zero (f : Int → Int) (xs : List Int) : mdBrush f 0 xs = xs := by simp [mdBrush]
theorem mdBrush_all (f : Int → Int) (xs : List Int) : mdBrush f xs.length xs = xs.map f := by simp [mdBrush]
theorem B_at1 {α : Type} {d : Kd α} {e : Nat} {w : World} {base : Nat} {ok : Nat → Prop} {v : Value} {xs : List α} (h : Kd.B d e w base ok v xs) : ∃ g cap, v = .slice (some ⟨g, 0, none⟩) xs.length cap ∧ base ≤ g := by
  obtain ⟨_, g, cap, _, e, hb, _⟩ := h
  exact ⟨g, cap, e, hb⟩
theorem numsOf_rd (s : ByteArray) (i : Int) : 0 ≤ rdOf (0 : Int) (Kd.numsOf s) i ∧ rdOf (0 : Int) (Kd.numsOf s) i < 256 := by
  unfold rdOf Kd.numsOf
  rw [List.getD_eq_getElem?_getD]
  cases h : (s.data.toList.map fun b => (b.toNat : Int))[i.toNat]? with
  | none => exact ⟨by simp, by simp⟩
  | some v =>
    obtain ⟨b, _, rfl⟩ := List.mem_map.1 (List.mem_of_getElem? h)
    have : b.toNat < 256 := b.toNat_lt
    simp only [Option.getD_some]; omega
theorem mdA_of {v : Int} (h : 0 ≤ v ∧ v < 256) : mdA v = if (33 + Int.tmod v 94) % 256 = 58 then 99 else (33 + Int.tmod v 94) % 256 := by
  have h1 : 0 ≤ Int.tmod v 94 := Int.tmod_nonneg _ h.1
  have h2 : Int.tmod v 94 < 94 := Int.tmod_lt_of_pos _ (by decide)
  have h3 : (33 + Int.tmod v 94) % 256 = 33 + Int.tmod v 94 := by omega
  rw [h3]; rfl
theorem mdB_of {v : Int} (h : 0 ≤ v ∧ v < 256) : mdB v = (32 + Int.tmod v 95) % 256 := by
  have h1 : 0 ≤ Int.tmod v 95 := Int.tmod_nonneg _ h.1
  have h2 : Int.tmod v 95 < 95 := Int.tmod_lt_of_pos _ (by decide)
  unfold mdB; omega
theorem rdOf_set_self (xs : List Int) (i : Nat) (v : Int) (h : i < xs.length) : rdOf (0 : Int) (xs.set i v) (i : Int) = v := by
  unfold rdOf
  rw [Int.toNat_natCast, List.getD_eq_getElem?_getD, List.getElem?_set_self h]; rfl
theorem grown_other {w w' : World} {b0 e2 n : Nat} {u : Value} {ys : List Value} (hr : w.ownsRow b0 e2 1 u n ys) (hg : w.grownBy w' u.ownBlock) {k T : Nat} {cs : Array Value} {fz : Nat × Nat} (hk : w.heap[k]? = some (.cells cs T fz)) (hT : T ≠ e2) : w'.heap[k]? = some (.cells cs T fz) := by
  rw [hg.block k (blk_lt hk) (fun e1 => ?_), hk]
  rcases hr.2 with ⟨rfl, _⟩ | ⟨g, cap, cur, rfl, _, hgg, _⟩
  · simp [Value.ownBlock] at e1
  · have : k = g := by simpa [Value.ownBlock] using e1
    subst this
    rw [hk] at hgg
    injection hgg with hgg
    injection hgg with _ h3
    exact hT h3
theorem B_grown_other {w w' : World} {b0 e2 n : Nat} {u : Value} {ys : List Value} (hr : w.ownsRow b0 e2 1 u n ys) (hg : w.grownBy w' u.ownBlock) {d : Kd Int} {e base : Nat} {ok : Nat → Prop} {v : Value} {xs : List Int} (hT : e ≠ e2) (h : Kd.B d e w base ok v xs) : Kd.B d e w' base ok v xs :=
  Kd.B_stay h (fun k hk => by
    obtain ⟨cs, hc⟩ := Kd.B_typed h k hk
    rw [hc]; exact grown_other hr hg hc hT)
theorem md_mem {l0 : List S111} {x : Int} (h0 : 0 ≤ x) (h1 : x < l0.length) : rd_T111 l0 x ∈ l0 := by
  unfold rd_T111
  have : x.toNat < l0.length := by omega
  rw [List.getD_eq_getElem?_getD, List.getElem?_eq_getElem this]
  exact List.getElem_mem _
theorem md_nsize (xs : List Int) : (strOfNums xs).size = xs.length := by
  show (strOfNums xs).data.size = _
  simp [strOfNums]
theorem mdNames_succ (l0 : List S111) (k : Nat) (h : k < l0.length) : ((l0.take (k + 1)).map mdName).map Value.string = ((l0.take k).map mdName).map Value.string ++ [.string (mdName (rd_T111 l0 (k : Int)))] := by
  unfold rd_T111
  rw [List.take_succ_eq_append_getElem h, List.map_append, List.map_append, Int.toNat_natCast, List.getD_eq_getElem?_getD, List.getElem?_eq_getElem h]
  simp
theorem md_next {l0 : List S111} {B b k : Nat} {x : Int} {q : ByteArray} {w : World} (hx : x = (k : Nat)) (hk : k < l0.length) (hq : q = mdLine (rd_T111 l0 x)) (h : Lib.BuilderAtF 96 5 B b (.pointer (some ⟨b, 0, none⟩)) (Lib.byteCells (mdHead l0 k) ++ Lib.strCells q) w) :
    Lib.IsBuilderF 96 5 B b (Lib.byteCells (mdHead l0 (k + 1))) w := by
  subst hx
  rw [mdHead_succ l0 k hk, Lib.byteCells_append, ← Lib.strCells_eq, ← hq]
  exact .inr h
theorem mdLine_size (x : S111) : (mdLine x).size ≤ 500 := by
  have h1 : (mdName x).size ≤ 21 := by
    unfold mdName
    rw [md_nsize, List.length_map, Kd.numsOf_length, ByteArray.size_append, ByteArray.size_extract]
    have : (⟨#[70]⟩ : ByteArray).size = 1 := rfl
    omega
  have h2 : (mdVal x).length ≤ 200 := by unfold mdVal; rw [List.length_map, Kd.numsOf_length, ByteArray.size_extract]; omega
  unfold mdLine
  simp only [ByteArray.size_append, md_nsize, List.length_take, List.length_drop]
  have e1 : (⟨#[58]⟩ : ByteArray).size = 1 := rfl
  have e2 : (⟨#[13, 10, 9]⟩ : ByteArray).size = 3 := rfl
  have e3 : (⟨#[13, 10]⟩ : ByteArray).size = 2 := rfl
  omega
theorem mdFlat_len : ∀ l : List S111, ((l.map (fun x => (mdLine x).data.toList)).flatten).length ≤ 500 * l.length
  | [] => by simp
  | x :: l => by
    have h1 := mdFlat_len l
    have h2 := mdLine_size x
    have h3 : (mdLine x).data.toList.length = (mdLine x).size := data_length _
    rw [List.map_cons, List.flatten_cons, List.length_append, List.length_cons, Nat.mul_add]
    omega
theorem md_fits (l0 : List S111) {k : Nat} (h : k ≤ 12) : (Lib.byteCells (mdHead l0 k)).length ≤ 6000 := by
  have h1 := mdFlat_len (l0.take k)
  have h2 : (l0.take k).length ≤ 12 := by rw [List.length_take]; omega
  rw [Lib.byteCells, List.length_map]
  unfold mdHead
  omega
theorem md_take (l0 : List S111) {k : Nat} (h : min l0.length 12 = k) : l0.take 12 = l0.take k := by
  subst h
  rcases Nat.le_total l0.length 12 with h | h
  · rw [Nat.min_eq_left h, List.take_length, List.take_of_length_le h]
  · rw [Nat.min_eq_right h]
theorem md_small {sep : ByteArray} {save : Nat} : ∀ (k : Nat) (s : ByteArray), ∀ p ∈ Lib.splitB sep save k s, p.size ≤ s.size
  | 0, s => by intro p hp; rw [Lib.splitB_zero, List.mem_singleton] at hp; rw [hp]; exact Nat.le_refl _
  | k + 1, s => by
    intro p hp
    rcases Lib.indexB_cases s sep with h | ⟨i, h, hi⟩
    · rw [Lib.splitB_miss sep save _ s h, List.mem_singleton] at hp; rw [hp]; exact Nat.le_refl _
    · rw [Lib.splitB_hit sep save k s i h] at hp
      rcases List.mem_cons.1 hp with rfl | hp
      · rw [ByteArray.size_extract]; omega
      · have h1 := md_small k _ p hp
        rw [ByteArray.size_extract] at h1; omega
theorem mdParts_small (a1 : ByteArray) : (∀ p ∈ mdParts a1, p.size ≤ 800) ∧ (mdParts a1).length ≤ 801 ∧ (mdParts a1).length = Lib.countB (a1.extract 0 (min a1.size 800)) (⟨#[120]⟩ : ByteArray) + 1 := by
  have hsz : (a1.extract 0 (min a1.size 800)).size ≤ 800 := by rw [ByteArray.size_extract]; omega
  have h3 := Lib.splitB_all (⟨#[120]⟩ : ByteArray) (by decide) 1 _ (a1.extract 0 (min a1.size 800)) rfl
  have h4 := Lib.countB_le (⟨#[120]⟩ : ByteArray) (by decide) _ (a1.extract 0 (min a1.size 800)) (Nat.le_refl _)
  refine ⟨fun p hp => Nat.le_trans (md_small _ _ p hp) hsz, ?_, h3⟩
  unfold mdParts; omega
theorem mdRow_size (p : ByteArray) : (mdRow p).size = p.size + 2 := by
  unfold mdRow
  rw [ByteArray.size_append, md_nsize, List.length_map, Kd.numsOf_length]; rfl
theorem mdRows_len : ∀ ps : List ByteArray, (∀ p ∈ ps, p.size ≤ 800) → ((ps.map (fun x => (mdRow x).data.toList)).flatten).length ≤ 802 * ps.length
  | [], _ => by simp
  | p :: ps, h => by
    have h1 := mdRows_len ps (fun q hq => h q (List.mem_cons_of_mem _ hq))
    have h2 := h p (by simp)
    have h3 : (mdRow p).data.toList.length = (mdRow p).size := data_length _
    rw [mdRow_size] at h3
    rw [List.map_cons, List.flatten_cons, List.length_append, List.length_cons, Nat.mul_add]
    omega
theorem mdBody_fits (a1 : ByteArray) (k : Nat) : (mdBody (mdParts a1) k).length ≤ 700000 := by
  obtain ⟨h1, h2, _⟩ := mdParts_small a1
  have h3 := mdRows_len ((mdParts a1).take k) (fun p hp => h1 p (List.mem_of_mem_take hp))
  have h4 : ((mdParts a1).take k).length ≤ 801 := by rw [List.length_take]; omega
  unfold mdBody
  omega
theorem mdBody_succ (ps : List ByteArray) (k : Nat) (h : k < ps.length) : mdBody ps (k + 1) = mdBody ps k ++ (mdRow (ps[k]'h)).data.toList := by
  unfold mdBody
  rw [List.take_succ_eq_append_getElem h, List.map_append, List.flatten_append]
  simp
theorem md_cells {z : List Int} (h : ∀ v ∈ z, 0 ≤ v ∧ v < 256) : Lib.byteCells (strOfNums z).data.toList = z.map (Value.int .u8) := by
  unfold Lib.byteCells strOfNums
  rw [List.toList_toArray, List.map_map]
  refine List.map_congr_left (fun v hv => ?_)
  have := h v hv
  show Value.int .u8 _ = Value.int .u8 v
  congr 1
  show ((UInt8.ofNat v.toNat).toNat : Int) = v
  rw [UInt8.toNat_ofNat']
  omega
theorem mdB_rng (s : ByteArray) : ∀ v ∈ (Kd.numsOf s).map mdB, 0 ≤ v ∧ v < 256 := by
  intro v hv
  obtain ⟨u, hu, rfl⟩ := List.mem_map.1 hv
  obtain ⟨b, _, rfl⟩ := List.mem_map.1 hu
  have hb : b.toNat < 256 := b.toNat_lt
  have h1 : 0 ≤ Int.tmod (b.toNat : Int) 95 := Int.tmod_nonneg _ (by omega)
  have h2 : Int.tmod (b.toNat : Int) 95 < 95 := Int.tmod_lt_of_pos _ (by decide)
  unfold mdB; omega
/-- The builder behind a whole row of the body. -/
theorem md_bnext {ps : List ByteArray} {pre : List UInt8} {B b k : Nat} {z : List Int} {w : World} (hk : k < ps.length) (hz : z = (Kd.numsOf (ps[k]'hk)).map mdB) (h : Lib.BuilderAtF 96 5 B b (.pointer (some ⟨b, 0, none⟩)) ((Lib.byteCells (pre ++ mdBody ps k) ++ z.map (Value.int .u8)) ++ Lib.strCells (⟨#[13, 10]⟩ : ByteArray)) w) :
    Lib.IsBuilderF 96 5 B b (Lib.byteCells (pre ++ mdBody ps (k + 1))) w := by
  rw [← md_cells (by rw [hz]; exact mdB_rng _), Lib.strCells_eq, ← Lib.byteCells_append, ← Lib.byteCells_append] at h
  have e : (pre ++ mdBody ps k) ++ (strOfNums z).data.toList ++ (⟨#[13, 10]⟩ : ByteArray).data.toList = pre ++ mdBody ps (k + 1) := by
    rw [mdBody_succ ps k hk, List.append_assoc, List.append_assoc]
    congr 2
    unfold mdRow
    rw [← hz, ByteArray.data_append, Array.toList_append]
  rw [e] at h
  exact .inr h
theorem others_blk {w w' : World} {b k T : Nat} {cs : Array Value} {fz : Nat × Nat} (h : w.heap[k]? = some (.cells cs T fz)) (hT : T ≠ 5) (hk : k ≠ b) (ho : Lib.OthersKept 5 (some b) w w') : w'.heap[k]? = some (.cells cs T fz) :=
  ho k _ h (fun e => hk (Option.some.inj e)) (fun c f e => by injection e with _ h2; exact hT h2)
theorem md_textT (l0 : List S111) (a1 : ByteArray) : (⟨(mdHead l0 (min l0.length 12)).toArray⟩ : ByteArray) = mdText l0 a1 true := by unfold mdText; rw [if_pos rfl, List.append_nil]
theorem md_wrap {y : Int} (h0 : 0 ≤ y) (h1 : y + 1 ≤ 9223372036854775807) : wrap64 (y + 1) = y + 1 := by unfold wrap64; omega
def mdOk (l0 : List S111) : Prop := ∀ x ∈ l0, 0 ≤ x.f2 ∧ x.f2 < 256
instance (l0 : List S111) : Decidable (mdOk l0) := by unfold mdOk; infer_instance
def postriderlaw07_made.f (l0 : List S111) (a1 : ByteArray) (a2 : Bool) : Option (ByteArray × List ByteArray) := if mdOk l0 then some (mdText l0 a1 a2, (l0.take 12).map mdName) else none
set_option maxHeartbeats 4000000 in
set_option maxRecDepth 100000 in
theorem postriderlaw07_made.calls (A0 : Option Addr) (c0 : Nat) (l0 : List S111) (a1 : ByteArray) (a2 : Bool) (r1 : ByteArray) (r2 : List ByteArray) (w : World) (hr0 : Kd.C k111 w A0 l0.length l0) (hc0 : l0.length ≤ c0) (hG : Glob w) (h : postriderlaw07_made.f l0 a1 a2 = some (r1, r2)) :
    Calls Tryd.prog 35 #[.slice A0 l0.length c0, .string a1, .bool a2] w fun e w' => ∃ v1_ : Value, e = .returned (.tuple #[.string r1, v1_]) ∧ Kd.R Kd.string 9 w' w.heap.size (fun _ => True) v1_ r2 ∧ Below w.heap.size w w' := by
  unfold postriderlaw07_made.f at h
  by_cases hok : mdOk l0
  · rw [if_pos hok] at h
    obtain ⟨rfl, rfl⟩ := Prod.mk.inj (Option.some.inj h)
    clear h
    have HK := Aside0.mk hok
    have HR := Aside0.mk hr0
    have HC := Aside0.mk hc0
    have HGl := Aside0.mk hG
    clear hok hr0 hc0 hG
    obtain ⟨g, hg⟩ : ∃ g, g = w.heap.size := ⟨_, rfl⟩
    go_enter Tryd.func35, Tryd.ntmps35
    go_upto_block 0 with (fail)
    obtain ⟨W, hW⟩ : ∃ W, W = w.alloc (Obj.cells #[Value.pointer none, Value.slice none 0 0] 96) := ⟨_, rfl⟩
    have HI : Aside0 (Lib.IsBuilderF 96 5 g g (Lib.byteCells (mdHead l0 0)) W) := ⟨by
      have := Lib.IsBuilderF.of (Lib.fresh_isBuilder 96 5 w)
      rw [hW, hg]
      simpa [mdHead, Lib.byteCells] using this⟩
    have HB : Aside0 (Below w.heap.size w W) := ⟨by
      rw [hW]; exact below_alloc (Below.refl _ _) _⟩
    have HZ : Aside0 (g + 1 ≤ W.heap.size) := ⟨by rw [hW, hg]; simp⟩
    have Hg := Aside0.mk hg
    rw [← hW, ← hg]
    clear hW hg
    go_cut [9] (fun v9 wc => Aside0 (Lib.IsBuilderF 96 5 g g (Lib.byteCells (mdHead l0 (min l0.length 12))) wc) ∧ Aside0 (wc.ownsRow g 9 1 v9 (min l0.length 12) (((l0.take 12).map mdName).map Value.string)) ∧ Aside0 (Below w.heap.size w wc) ∧ Aside0 (g + 1 ≤ wc.heap.size))
    case first =>
      go_wp2
      go_loopw [9, 23] (fun v9 v23 w' => ∃ (x : Int) (k : Nat), v23 = .int .i64 x ∧ Aside0 (x = (k : Nat)) ∧ 0 ≤ x ∧ x ≤ l0.length ∧ Aside0 (k ≤ 12) ∧ Aside0 (Lib.IsBuilderF 96 5 g g (Lib.byteCells (mdHead l0 k)) w') ∧ Aside0 (w'.ownsRow g 9 1 v9 k (((l0.take k).map mdName).map Value.string)) ∧ Aside0 (Below w.heap.size w w') ∧ Aside0 (g + 1 ≤ w'.heap.size)) (fun v9 v23 _ => l0.length - (intOf v23).toNat)
      case atStart => exact ⟨0, 0, rfl, ⟨rfl⟩, Int.le_refl _, by omega, ⟨by omega⟩, HI, ⟨by simpa using World.ownsRow_nil _ _ _ _⟩, HB, HZ⟩
      case round =>
        clear HI HB HZ
        obtain ⟨x, k, rfl, Hx, hx0, hx1, Hk, HI, HN, HB, HZ⟩ := hrel
        by_cases hlt : x < l0.length
        · have hd : decide (x < (l0.length : Int)) = true := decide_eq_true hlt
          have hkl : k < l0.length := by have := Hx.out; omega
          obtain ⟨ad, e, h0, h1, h2⟩ := at_T111 HR.out x hx0 hlt
          cases e
          replace h0 := pw_cell_below HB.out h0
          replace h1 := pw_cell_below HB.out h1
          replace h2 := pw_cell_below HB.out h2
          by_cases h12 : x = 12
          · have hd2 : (x == 12) = true := beq_iff_eq.2 h12
            have h12k : k = 12 := by have := Hx.out; omega
            have hmn : min l0.length 12 = k := by omega
            clear h12 h12k hkl
            go_wp2
            go_meet
            case rel => exact ⟨⟨by rw [hmn]; exact HI.out.alloc _⟩, ⟨by rw [hmn, md_take l0 hmn]; exact ownsRow_below HN.out (below_alloc (Below.refl _ _) _)⟩, ⟨below_alloc HB.out _⟩, ⟨by have := HZ.out; simp; omega⟩⟩
          · have hd2 : (x == 12) = false := beq_eq_false_iff_ne.2 h12
            obtain ⟨xn, hxn⟩ : ∃ y_ : ByteArray, (rd_T111 l0 x).f0 = y_ := ⟨_, rfl⟩
            obtain ⟨xv, hxv⟩ : ∃ y_ : ByteArray, (rd_T111 l0 x).f1 = y_ := ⟨_, rfl⟩
            obtain ⟨xf, hxf⟩ : ∃ y_ : Int, (rd_T111 l0 x).f2 = y_ := ⟨_, rfl⟩
            rw [hxn] at h0
            rw [hxv] at h1
            rw [hxf] at h2
            have HXF : Aside0 (0 ≤ xf ∧ xf < 256) := ⟨by rw [← hxf]; exact HK.out _ (md_mem hx0 hlt)⟩
            obtain ⟨jn, hjn⟩ : ∃ j_ : Int, mn (xn.size : Int) 20 = j_ := ⟨_, rfl⟩
            have hjn_ : (if 20 < (xn.size : Int) then 20 else (xn.size : Int)) = jn := hjn
            have hjn0 : 0 ≤ jn ∧ jn ≤ xn.size ∧ jn ≤ 20 ∧ jn.toNat = min xn.size 20 := by rw [← hjn]; unfold mn; split <;> omega
            have b1 : decide (0 ≤ jn) = true := decide_eq_true hjn0.1
            have b1' := eq_true hjn0.1
            have b2 : decide (jn ≤ (xn.size : Int)) = true := decide_eq_true hjn0.2.1
            have b2' := eq_true hjn0.2.1
            obtain ⟨js, hjs⟩ : ∃ j_ : ByteArray, xn.extract 0 (jn : Int).toNat = j_ := ⟨_, rfl⟩
            have hjsz : js.size ≤ 20 := by rw [← hjs, ByteArray.size_extract]; omega
            have b3 : (9223372036854775807 < 1 + js.size) = False := eq_false (by omega)
            obtain ⟨jt, hjt⟩ : ∃ j_ : ByteArray, (⟨#[70]⟩ : ByteArray) ++ js = j_ := ⟨_, rfl⟩
            have HJ := Aside0.mk hjn0
            have HJS := Aside0.mk hjsz
            have HKK := Aside0.mk hkl
            have HK12 : Aside0 (k + 1 ≤ 12) := ⟨by have := Hx.out; have := Hk.out; omega⟩
            have HLM : Aside0 (l0.length ≤ 9223372036854775807) := ⟨Kd.C_max HR.out⟩
            clear hjn0 hjsz hkl h12
            have hjt0 : jt.size ≤ 9223372036854775807 := by
              rw [← hjt, ByteArray.size_append]
              have := HJS.out
              have : (⟨#[70]⟩ : ByteArray).size = 1 := rfl
              omega
            go_wp2_with (first | ((with_reducible refine gate_dst (N := 38) rfl ?_); (try (refine gate_guard (by rfl) ?_; dsimp only)); refine Kd.B_bytes _ 5 rfl (N := 38) rfl 9 39 _ jt rfl rfl Tryd.underlying9 Tryd.underlying39 Tryd.underlying5 (ok := fun _ => True) trivial hjt0 (Below.refl _ _) (Nat.le_refl _) ?_; intro v38 w1 ho1 hb1 hg1_ hnew1_; clear hg1_ hnew1_; obtain ⟨bq, cq, eq_, hbq⟩ := B_at1 ho1; subst eq_))
            obtain ⟨W0, hW0⟩ : ∃ W0, W0 = wr.alloc (Obj.cells #[Value.string xn, Value.string xv, Value.int IntKind.u8 xf] 111) := ⟨_, rfl⟩
            rw [← hW0] at ho1 hb1
            obtain ⟨gx, hgx⟩ : ∃ gx, gx = wr.heap.size := ⟨_, rfl⟩
            rw [← hgx]
            obtain ⟨y1, hy1⟩ : ∃ y1, y1 = Kd.numsOf jt := ⟨_, rfl⟩
            rw [← hy1] at ho1 ⊢
            rw [← hW0] at hbq
            have HO1 := Aside0.mk ho1
            have HB1 := Aside0.mk hb1
            have HY1 := Aside0.mk hy1
            have HBQ := Aside0.mk hbq
            have HI0 : Aside0 (Lib.IsBuilderF 96 5 g g (Lib.byteCells (mdHead l0 k)) W0) := ⟨by rw [hW0]; exact HI.out.alloc _⟩
            have HN0 : Aside0 (W0.ownsRow g 9 1 u9 k (((l0.take k).map mdName).map Value.string)) := ⟨by rw [hW0]; exact ownsRow_below HN.out (below_alloc (Below.refl _ _) _)⟩
            have HX0 : Aside0 (W0.heap[gx]? = some (.cells #[Value.string xn, Value.string xv, Value.int IntKind.u8 xf] 111 (0, 0))) := ⟨by rw [hW0, hgx]; exact blk_new _ _⟩
            have HBW0 : Aside0 (Below w.heap.size w W0) := ⟨by rw [hW0]; exact below_alloc HB.out _⟩
            have HZ0 : Aside0 (g + 1 ≤ W0.heap.size) := ⟨by have := HZ.out; rw [hW0]; simp; omega⟩
            clear ho1 hb1 hbq hy1 hgx hW0 h0 h1 h2 hx0 hx1 hlt hd hd2 b1 b1' b2 b2' b3 hjn hjn_ hjt0 HI HN HB HZ
            go_loopw [41] (fun v41 w' => ∃ (y : Int) (m : Nat), v41 = .int .i64 y ∧ Aside0 (y = (m : Nat)) ∧ 0 ≤ y ∧ y ≤ y1.length ∧ Aside0 (Kd.B (Kd.int .u8) 5 w' W0.heap.size (fun _ => True) (.slice (some ⟨bq, 0, none⟩) y1.length cq) (mdBrush mdA m y1)) ∧ Aside0 (Below W0.heap.size W0 w')) (fun v41 _ => y1.length - (intOf v41).toNat)
            case atStart => exact ⟨0, 0, rfl, ⟨rfl⟩, Int.le_refl _, by omega, ⟨by rw [mdBrush_zero]; exact HO1.out⟩, HB1⟩
            case round =>
              clear HO1 HB1
              obtain ⟨y, m, rfl, Hy, hy0, hy1, HO, HB1⟩ := hrel
              by_cases c : y < (y1.length : Int)
              · have c0 : decide (y < (y1.length : Int)) = true := decide_eq_true c
                have hm : m < y1.length := by have := Hy.out; omega
                have hxl := mdBrush_length mdA m y1
                have hst := mdBrush_set mdA m y1 hm
                have hrd := mdBrush_rd mdA m y1 hm
                rw [← Hy.out] at hrd hst
                obtain ⟨xs, hxs⟩ : ∃ xs, xs = mdBrush mdA m y1 := ⟨_, rfl⟩
                rw [← hxs] at HO hrd hxl hst
                have hrg : 0 ≤ rdOf (0 : Int) y1 y ∧ rdOf (0 : Int) y1 y < 256 := by rw [HY1.out]; exact numsOf_rd _ _
                have HXS := Aside0.mk (mdA_of hrg)
                have HST := Aside0.mk hst
                rw [← hrd] at HXS HST
                have hyn : y.toNat < xs.length := by have := Hy.out; omega
                have HYN := Aside0.mk hyn
                have HXL := Aside0.mk hxl
                clear hrd hxs hrg hst hyn hxl hm
                obtain ⟨hx0, hf0⟩ := Kd.B_celln 0 HO.out y hy0 c
                have HP := Kd.B_putg HO.out y ((33 + (Int.tmod (rdOf 0 xs y) 94)) % 256)
                have p1 := eq_true hy0
                have q1 := eq_true c
                have HMX : Aside0 (y1.length ≤ 9223372036854775807) := ⟨Kd.C_max (Kd.B_reads' HO.out).2.2 |> fun h => by rw [HXL.out] at h; exact h⟩
                by_cases z : (33 + (Int.tmod (rdOf 0 xs y) 94)) % 256 = 58
                · have z0 : ((33 + (Int.tmod (rdOf 0 xs y) 94)) % 256 == 58) = true := beq_iff_eq.2 z
                  have HSY := Aside0.mk (HST.out 99 (by rw [HXS.out, if_pos z]))
                  have HQ := Kd.B_putg HP.1 y 99
                  rw [List.set_set] at HQ
                  clear z HXS HST
                  go_wp2
                  have hwr : wrap64 (y + 1) = y + 1 := md_wrap hy0 (by have := HMX.out; omega)
                  rw [hwr]
                  refine ⟨⟨y + 1, m + 1, rfl, ⟨by have := Hy.out; omega⟩, by omega, by omega, ⟨?_⟩, ⟨?_⟩⟩, by simp only [intOf]; omega⟩
                  · rw [← HSY.out, ← (show y.toNat = m by have := Hy.out; omega)]; exact HQ.1
                  · exact below_set (below_set HB1.out HBQ.out) HBQ.out
                · have z0 : ((33 + (Int.tmod (rdOf 0 xs y) 94)) % 256 == 58) = false := beq_eq_false_iff_ne.2 z
                  have HSY := Aside0.mk (HST.out _ (by rw [HXS.out, if_neg z]))
                  clear z HXS HST
                  go_wp2
                  have hwr : wrap64 (y + 1) = y + 1 := md_wrap hy0 (by have := HMX.out; omega)
                  rw [hwr]
                  refine ⟨⟨y + 1, m + 1, rfl, ⟨by have := Hy.out; omega⟩, by omega, by omega, ⟨?_⟩, ⟨?_⟩⟩, by simp only [intOf]; omega⟩
                  · rw [← HSY.out, ← (show y.toNat = m by have := Hy.out; omega)]; exact HP.1
                  · exact below_set HB1.out HBQ.out
              · have c0 : decide (y < (y1.length : Int)) = false := decide_eq_false c
                have hmy : m = y1.length := by have := Hy.out; omega
                subst hmy
                rw [mdBrush_all] at HO
                have HI1 : Aside0 (Lib.IsBuilderF 96 5 g g (Lib.byteCells (mdHead l0 k)) wr) := ⟨IsBuilderF_below HI0.out HB1.out⟩
                have HN1 : Aside0 (wr.ownsRow g 9 1 u9 k (((l0.take k).map mdName).map Value.string)) := ⟨ownsRow_below HN0.out HB1.out⟩
                have HX1 : Aside0 (wr.heap[gx]? = some (.cells #[Value.string xn, Value.string xv, Value.int IntKind.u8 xf] 111 (0, 0))) := ⟨(HB1.out.block gx (blk_lt HX0.out)).trans HX0.out⟩
                have HBW1 : Aside0 (Below w.heap.size w wr) := ⟨HBW0.out.trans (HB1.out.mono HBW0.out.size)⟩
                have HZ1 : Aside0 (g + 1 ≤ wr.heap.size) := ⟨Nat.le_trans HZ0.out HB1.out.size⟩
                have hcx1 : wr.cell? ⟨gx, 1, none⟩ = some (Value.string xv) := (blk_cell HX1.out 1).trans rfl
                obtain ⟨z1, hz1⟩ : ∃ z1, z1 = y1.map mdA := ⟨_, rfl⟩
                have hzl : y1.length = z1.length := by rw [hz1, List.length_map]
                rw [← hz1, hzl] at HO
                rw [hzl] at c0 ⊢
                have HZ1' := Aside0.mk hz1
                clear hz1 hzl HI0 HN0 HX0 HBW0 HZ0 HB1 HBQ Hy hy0 hy1 c
                obtain ⟨jv, hjv⟩ : ∃ j_ : Int, mn (xv.size : Int) 200 = j_ := ⟨_, rfl⟩
                have hjv_ : (if 200 < (xv.size : Int) then 200 else (xv.size : Int)) = jv := hjv
                have hjv0 : 0 ≤ jv ∧ jv ≤ xv.size ∧ jv ≤ 200 ∧ jv.toNat = min xv.size 200 := by rw [← hjv]; unfold mn; split <;> omega
                have b1 : decide (0 ≤ jv) = true := decide_eq_true hjv0.1
                have b1' := eq_true hjv0.1
                have b2 : decide (jv ≤ (xv.size : Int)) = true := decide_eq_true hjv0.2.1
                have b2' := eq_true hjv0.2.1
                obtain ⟨jw, hjw⟩ : ∃ j_ : ByteArray, xv.extract 0 (jv : Int).toNat = j_ := ⟨_, rfl⟩
                have hjwz : jw.size ≤ 9223372036854775807 := by rw [← hjw, ByteArray.size_extract]; omega
                have HJV := Aside0.mk hjv0
                clear hjv0
                go_wp2_with (first | ((with_reducible refine gate_dst (N := 69) rfl ?_); (try (refine gate_guard (by rfl) ?_; dsimp only)); refine Kd.B_bytes _ 5 rfl (N := 69) rfl 9 39 _ jw rfl rfl Tryd.underlying9 Tryd.underlying39 Tryd.underlying5 (ok := fun _ => True) trivial hjwz (Below.refl _ _) (Nat.le_refl _) ?_; intro v69 w3 ho3 hb3 hg3_ hnew3_; clear hg3_ hnew3_; obtain ⟨br, cr, er_, hbr⟩ := B_at1 ho3; subst er_))
                clear c0
                obtain ⟨y2, hy2⟩ : ∃ y2, y2 = Kd.numsOf jw := ⟨_, rfl⟩
                rw [← hy2] at ho3 ⊢
                have HO3 := Aside0.mk ho3
                have HB3 := Aside0.mk hb3
                have HY2 := Aside0.mk hy2
                have HBR := Aside0.mk hbr
                clear ho3 hb3 hbr hy2 hcx1 b1 b1' b2 b2' hjv hjv_ hjwz
                go_loopw [72] (fun v72 w' => ∃ (y : Int) (m : Nat), v72 = .int .i64 y ∧ Aside0 (y = (m : Nat)) ∧ 0 ≤ y ∧ y ≤ y2.length ∧ Aside0 (Kd.B (Kd.int .u8) 5 w' wr.heap.size (fun _ => True) (.slice (some ⟨br, 0, none⟩) y2.length cr) (mdBrush mdB m y2)) ∧ Aside0 (Below wr.heap.size wr w')) (fun v72 _ => y2.length - (intOf v72).toNat)
                case atStart => exact ⟨0, 0, rfl, ⟨rfl⟩, Int.le_refl _, by omega, ⟨by rw [mdBrush_zero]; exact HO3.out⟩, HB3⟩
                case round =>
                  clear HO3 HB3
                  obtain ⟨y, m, rfl, Hy, hy0, hy1, HQ, HB3⟩ := hrel
                  by_cases c : y < (y2.length : Int)
                  · have c0 : decide (y < (y2.length : Int)) = true := decide_eq_true c
                    have hm : m < y2.length := by have := Hy.out; omega
                    have hxl := mdBrush_length mdB m y2
                    have hst := mdBrush_set mdB m y2 hm
                    have hrd := mdBrush_rd mdB m y2 hm
                    rw [← Hy.out] at hrd hst
                    obtain ⟨xs, hxs⟩ : ∃ xs, xs = mdBrush mdB m y2 := ⟨_, rfl⟩
                    rw [← hxs] at HQ hrd hxl hst
                    have hrg : 0 ≤ rdOf (0 : Int) y2 y ∧ rdOf (0 : Int) y2 y < 256 := by rw [HY2.out]; exact numsOf_rd _ _
                    have hxm := mdB_of hrg
                    rw [← hrd] at hst hxm
                    have HSY := Aside0.mk (hst _ hxm)
                    have HMX : Aside0 (y2.length ≤ 9223372036854775807) := ⟨Kd.C_max (Kd.B_reads' HQ.out).2.2 |> fun h => by rw [hxl] at h; exact h⟩
                    clear hrd hxs hrg hst hxl hm hxm
                    obtain ⟨hx0, hf0⟩ := Kd.B_celln 0 HQ.out y hy0 c
                    have HP := Kd.B_putg HQ.out y ((32 + (Int.tmod (rdOf 0 xs y) 95)) % 256)
                    have p1 := eq_true hy0
                    have q1 := eq_true c
                    go_wp2
                    have hwr : wrap64 (y + 1) = y + 1 := md_wrap hy0 (by have := HMX.out; omega)
                    rw [hwr]
                    refine ⟨⟨y + 1, m + 1, rfl, ⟨by have := Hy.out; omega⟩, by omega, by omega, ⟨?_⟩, ⟨?_⟩⟩, by simp only [intOf]; omega⟩
                    · rw [← HSY.out, ← (show y.toNat = m by have := Hy.out; omega)]; exact HP.1
                    · exact below_set HB3.out HBR.out
                  · have c0 : decide (y < (y2.length : Int)) = false := decide_eq_false c
                    have hmy : m = y2.length := by have := Hy.out; omega
                    subst hmy
                    rw [mdBrush_all] at HQ
                    have HOn : Aside0 (Kd.B (Kd.int .u8) 5 wr W0.heap.size (fun _ => True) (.slice (some ⟨bq, 0, none⟩) z1.length cq) z1) := ⟨Kd.B_below HO.out HB3.out⟩
                    have HI2 : Aside0 (Lib.IsBuilderF 96 5 g g (Lib.byteCells (mdHead l0 k)) wr) := ⟨IsBuilderF_below HI1.out HB3.out⟩
                    have HN2 : Aside0 (wr.ownsRow g 9 1 u9 k (((l0.take k).map mdName).map Value.string)) := ⟨ownsRow_below HN1.out HB3.out⟩
                    have HX2 : Aside0 (wr.heap[gx]? = some (.cells #[Value.string xn, Value.string xv, Value.int IntKind.u8 xf] 111 (0, 0))) := ⟨(HB3.out.block gx (blk_lt HX1.out)).trans HX1.out⟩
                    have HBW2 : Aside0 (Below w.heap.size w wr) := ⟨HBW1.out.trans (HB3.out.mono HBW1.out.size)⟩
                    have HZ2 : Aside0 (g + 1 ≤ wr.heap.size) := ⟨Nat.le_trans HZ1.out HB3.out.size⟩
                    obtain ⟨z2, hz2⟩ : ∃ z2, z2 = y2.map mdB := ⟨_, rfl⟩
                    have hzl : y2.length = z2.length := by rw [hz2, List.length_map]
                    rw [← hz2, hzl] at HQ
                    rw [hzl] at c0 ⊢
                    have HZ2' := Aside0.mk hz2
                    clear hz2 hzl HI1 HN1 HX1 HBW1 HZ1 HB3 HBR Hy hy0 hy1 c HO
                    have hcv1 := Kd.B_string (P := Tryd.prog) Tryd.underlying39 Tryd.underlying5 Tryd.underlying9 HOn.out
                    obtain ⟨i0, hi, hz0, hz1, hz2⟩ := info_parts info9
                    have HKL : Aside0 (k ≤ 12) := Hk
                    have hbas : g ≤ (wr.alloc (Obj.cells #[Value.string (strOfNums z1)] 9)).heap.size := by have := HZ2.out; simp; omega
                    have HHR : Aside0 ((wr.alloc (Obj.cells #[Value.string (strOfNums z1)] 9)).ownsRow g 9 1 u9 k (((l0.take k).map mdName).map Value.string)) := ⟨ownsRow_below HN2.out (below_alloc (Below.refl _ _) _)⟩
                    have hwf : wrap64 xf = xf := by have := HXF.out; unfold wrap64; omega
                    obtain ⟨jc, hjc⟩ : ∃ j_ : Int, (if (z2.length : Int) < xf then (z2.length : Int) else xf) = j_ := ⟨_, rfl⟩
                    have hjc0 : 0 ≤ jc ∧ jc ≤ z2.length ∧ jc.toNat = min xf.toNat z2.length := by have := HXF.out; rw [← hjc]; split <;> omega
                    have hcr := (Kd.B_reads' HQ.out).2.1
                    have d1 : decide (0 ≤ jc) = true := decide_eq_true hjc0.1
                    have d1' := eq_true hjc0.1
                    have d2 : decide (jc ≤ (z2.length : Int)) = true := decide_eq_true hjc0.2.1
                    have d2' := eq_true hjc0.2.1
                    have d3 : decide (jc ≤ (cr : Int)) = true := decide_eq_true (by omega)
                    have d3' : (jc ≤ (cr : Int)) = True := eq_true (by omega)
                    have HJC := Aside0.mk hjc0
                    have HCR := Aside0.mk hcr
                    clear hjc0 hcr
                    go_wp2_with (at_builtin; refine wpList_append_own _ rfl _ _ 37 rfl g 9 i0 (.string ⟨#[]⟩) 1 16 Tryd.underlying37 hi hz0 hz1 hz2 rfl (by decide) _ _ _ rfl HHR.out ⟨wr.heap.size, 0, none⟩ 1 1 [.string (strOfNums z1)] rfl rfl (cell_one_new _ _ _) (by simp [Value.oneCell']) (by have := HKL.out; simp only [maxLen]; omega) (by have := HKL.out; omega) hbas ?_; intro v89 w5 hown5 hgrow5 _; obtain ⟨g5, cap5, rfl⟩ := ownsRow_succ hown5; have HX5 := Aside0.mk (grown_other HHR.out hgrow5 (blk_alloc HX2.out _) (by decide)); have HO5 := Aside0.mk (B_grown_other HHR.out hgrow5 (by decide) (Kd.B_alloc HOn.out _)); have HQ5 := Aside0.mk (B_grown_other HHR.out hgrow5 (by decide) (Kd.B_alloc HQ.out _)); have HI5 := Aside0.mk (IsBuilderF_grown (HI2.out.alloc _) HHR.out (by decide) (by decide) hgrow5); have HBW5 := Aside0.mk ((below_alloc HBW2.out _).grown hgrow5 (by have := HBW2.out.size; simp; omega) (fun k hk => by rw [← Hg.out]; exact (HHR.out.lt k hk).1)); have HZ5 := Aside0.mk (Nat.le_trans hbas hgrow5.size); have HN5 := Aside0.mk hown5; clear hown5 hgrow5 hcv1; have hc5 := (blk_cell HX5.out 2).trans rfl)
                    clear hc5 hjc hwf hi hz0 hz1 hz2 hbas HOn HI2 HN2 HX2 HBW2 HZ2 HHR c0
                    obtain ⟨s1, hs1⟩ : ∃ s, strOfNums z1 = s := ⟨_, rfl⟩
                    obtain ⟨s2, hs2⟩ : ∃ s, strOfNums (z2.take jc.toNat) = s := ⟨_, rfl⟩
                    obtain ⟨s3, hs3⟩ : ∃ s, strOfNums (z2.drop jc.toNat) = s := ⟨_, rfl⟩
                    have hjn : jc.toNat ≤ z2.length := by have := HJC.out; omega
                    have hQ := (Kd.B_reads' (Kd.B_drew HQ5.out)).2.2
                    have hcvA : (convert 39 9 (.slice (some ⟨bq, 0, none⟩) z1.length cq)).run Tryd.prog w5.drew = .ok (.string s1) w5.drew := by rw [← hs1]; exact Kd.B_string (P := Tryd.prog) Tryd.underlying39 Tryd.underlying5 Tryd.underlying9 (Kd.B_drew HO5.out)
                    have hcvB : (convert 39 9 (.slice (some ⟨br, 0, none⟩) jc.toNat cr)).run Tryd.prog w5.drew = .ok (.string s2) w5.drew := by
                      have h := Kd.C_string (P := Tryd.prog) (src := 39) (dst := 9) (c := cr) Tryd.underlying39 Tryd.underlying5 Tryd.underlying9 (Kd.C_take hQ hjn)
                      rw [hs2, show (z2.take jc.toNat).length = jc.toNat by rw [List.length_take]; omega] at h
                      exact h
                    have hcvC : (convert 39 9 (.slice (if cr = jc.toNat then some ⟨br, 0, none⟩ else some ⟨br, jc.toNat, none⟩) (z2.length - jc.toNat) (cr - jc.toNat))).run Tryd.prog w5.drew = .ok (.string s3) w5.drew := by
                      have h := Kd.C_string (P := Tryd.prog) (src := 39) (dst := 9) (c := cr - jc.toNat) Tryd.underlying39 Tryd.underlying5 Tryd.underlying9 (Kd.C_drop hQ hjn HCR.out)
                      rw [hs3, List.length_drop] at h
                      have e : ((some (⟨br, 0, none⟩ : Addr)).map (·.add (jc.toNat * (Kd.int .u8).sz))) = some ⟨br, jc.toNat, none⟩ := by
                        show some ((⟨br, 0, none⟩ : Addr).add (jc.toNat * 1)) = _
                        rw [Nat.mul_one, add_plain]
                        try simp
                      rw [e] at h
                      exact h
                    have hz1s : s1.size ≤ 21 := by
                      rw [← hs1, md_nsize, HZ1'.out, List.length_map, HY1.out, Kd.numsOf_length, ← hjt, ByteArray.size_append]
                      have := HJS.out
                      have : (⟨#[70]⟩ : ByteArray).size = 1 := rfl
                      omega
                    have hz2l : z2.length ≤ 200 := by
                      rw [HZ2'.out, List.length_map, HY2.out, Kd.numsOf_length, ← hjw, ByteArray.size_extract]
                      have := HJV.out; omega
                    have hz2s : s2.size ≤ 200 := by rw [← hs2, md_nsize, List.length_take]; omega
                    have hz3s : s3.size ≤ 200 := by rw [← hs3, md_nsize, List.length_drop]; omega
                    obtain ⟨q1, hq1⟩ : ∃ q, s1 ++ (⟨#[58]⟩ : ByteArray) = q := ⟨_, rfl⟩
                    obtain ⟨q2, hq2⟩ : ∃ q, q1 ++ s2 = q := ⟨_, rfl⟩
                    obtain ⟨q3, hq3⟩ : ∃ q, q2 ++ (⟨#[13, 10, 9]⟩ : ByteArray) = q := ⟨_, rfl⟩
                    obtain ⟨q4, hq4⟩ : ∃ q, q3 ++ s3 = q := ⟨_, rfl⟩
                    obtain ⟨q5, hq5⟩ : ∃ q, q4 ++ (⟨#[13, 10]⟩ : ByteArray) = q := ⟨_, rfl⟩
                    have k1 : q1.size = s1.size + 1 := by rw [← hq1, ByteArray.size_append]; rfl
                    have k2 : q2.size = q1.size + s2.size := by rw [← hq2, ByteArray.size_append]
                    have k3 : q3.size = q2.size + 3 := by rw [← hq3, ByteArray.size_append]; rfl
                    have k4 : q4.size = q3.size + s3.size := by rw [← hq4, ByteArray.size_append]
                    have k5 : q5.size = q4.size + 2 := by rw [← hq5, ByteArray.size_append]; rfl
                    have o1 : (9223372036854775807 < s1.size + 1) = False := eq_false (by omega)
                    have o2 : (9223372036854775807 < q1.size + s2.size) = False := eq_false (by omega)
                    have o3 : (9223372036854775807 < q2.size + 3) = False := eq_false (by omega)
                    have o4 : (9223372036854775807 < q3.size + s3.size) = False := eq_false (by omega)
                    have o5 : (9223372036854775807 < q4.size + 2) = False := eq_false (by omega)
                    have K5 : Aside0 (q5.size ≤ 500) := ⟨by omega⟩
                    clear k1 k2 k3 k4 k5 hz1s hz2l hz2s hz3s hjn
                    go_still_tail 15, (by kernel_rfl)
                    have HI6 : Aside0 (Lib.IsBuilderF 96 5 g g (Lib.byteCells (mdHead l0 k)) w5.drew) := ⟨IsBuilderF_below HI5.out (below_drew (Below.refl _ _))⟩
                    have HN6 : Aside0 (w5.drew.ownsRow g 9 1 (.slice (some ⟨g5, 0, none⟩) (k + 1) cap5) (k + 1) (((l0.take k).map mdName).map Value.string ++ [.string s1])) := ⟨by rw [← hs1]; exact ownsRow_below HN5.out (below_drew (Below.refl _ _))⟩
                    have HBW6 : Aside0 (Below w.heap.size w w5.drew) := ⟨below_drew HBW5.out⟩
                    have HZ6 : Aside0 (g ≤ w5.drew.heap.size) := ⟨Nat.le_trans (Nat.le_refl _) HZ5.out⟩
                    have e1 : strOfNums z1 = mdName (rd_T111 l0 x) := by unfold mdName; rw [hxn, HZ1'.out, HY1.out, ← hjt, ← hjs, HJ.out.2.2.2]
                    have e2 : z2 = mdVal (rd_T111 l0 x) := by unfold mdVal; rw [hxv, HZ2'.out, HY2.out, ← hjw, HJV.out.2.2.2]
                    have e3 : jc.toNat = mdCut (rd_T111 l0 x) := by unfold mdCut; rw [← e2, hxf, HJC.out.2.2]
                    have hline : q5 = mdLine (rd_T111 l0 x) := by
                      rw [← hq5, ← hq4, ← hq3, ← hq2, ← hq1, ← hs1, ← hs2, ← hs3]
                      unfold mdLine
                      rw [e1, e2, e3]
                    have HS1 : Aside0 (s1 = mdName (rd_T111 l0 x)) := ⟨by rw [← hs1]; exact e1⟩
                    clear e1 e2 e3
                    have HLN := Aside0.mk hline
                    have hfit : (Lib.byteCells (mdHead l0 k)).length + q5.size ≤ 140737488355328 := by
                      have := md_fits l0 Hk.out
                      have := K5.out
                      omega
                    have HFT := Aside0.mk hfit
                    clear hline hfit hcvA hcvB hcvC hQ o1 o2 o3 o4 o5 d1 d1' d2 d2' d3 d3' hq1 hq2 hq3 hq4 hq5 hs1 hs2 hs3
                    change wpList _ _ _ _ _ w5.drew
                    generalize w5.drew = w6 at *
                    go_wp2_with (go_at_call 60; (with_reducible refine (Tryd.Builder_WriteString_k g g (Lib.byteCells (mdHead l0 k)) _ _ HI6.out HFT.out HZ6.out).mono ?_); rintro e7 w7 ⟨rfl, hI7, hb7, hk7⟩)
                    have hwr : wrap64 (x + 1) = x + 1 := md_wrap (by have := Hx.out; omega) (by have := Hx.out; have := HKK.out; have := HLM.out; omega)
                    rw [hwr]
                    obtain ⟨_, vv, hgb, _⟩ := id hI7
                    refine ⟨⟨x + 1, k + 1, rfl, ⟨by have := Hx.out; omega⟩, by have := Hx.out; omega, by have := Hx.out; have := HKK.out; omega, HK12, ⟨md_next Hx.out HKK.out HLN.out hI7⟩, ⟨?_⟩, ⟨HBW6.out.trans (hb7.mono (by have := Hg.out; omega))⟩, ⟨blk_lt hgb⟩⟩, by have := Hx.out; have := HKK.out; simp only [intOf]; omega⟩
                    rw [mdNames_succ l0 k HKK.out, ← Hx.out, ← HS1.out]
                    obtain ⟨p6, _, v6, hg6, _⟩ := IsBuilderF_at HI6.out
                    exact ownsRow_others HN6.out hg6 (by decide) (by decide) hk7
        · have hd : decide (x < (l0.length : Int)) = false := decide_eq_false hlt
          have hmn : min l0.length 12 = k := by have := Hx.out; have := Hk.out; omega
          go_wp2
          go_meet
          case rel => exact ⟨⟨by rw [hmn]; exact HI.out⟩, ⟨by rw [hmn, md_take l0 hmn]; exact HN.out⟩, HB, HZ⟩
    case rest =>
      obtain ⟨HI, HN, HB, HZ⟩ := hcut
      have hGc : Glob wc := HGl.out.below HB.out
      have HG := Aside0.mk hGc
      clear hGc
      cases a2 with
      | true =>
        go_wp2_with (go_at_call 61; (with_reducible refine (Tryd.Builder_String_any_k g g (mdHead l0 (min l0.length 12)) _ HI.out (by have := HZ.out; omega)).mono ?_); rintro e7 w7 ⟨rfl, hI7, hb7, hk7⟩)
        go_ret2
        obtain ⟨p6, _, v6, hg6, _⟩ := IsBuilderF_at HI.out
        have hN7 := ownsRow_others HN.out hg6 (by decide) (by decide) hk7
        have hl : (((l0.take 12).map mdName)).length = min l0.length 12 := by rw [List.length_map, List.length_take]; omega
        rw [md_textT l0 a1]
        refine ⟨_, rfl, Kd.R_of_own ?_ (fun _ _ => trivial), HB.out.trans (hb7.mono (by have := Hg.out; omega))⟩
        rw [hl, ← Hg.out]; exact hN7
      | false =>
        have hF1 : (Lib.byteCells (mdHead l0 (min l0.length 12))).length + (⟨#[13, 10]⟩ : ByteArray).size ≤ 140737488355328 := by
          have := md_fits l0 (k := min l0.length 12) (by omega)
          have : (⟨#[13, 10]⟩ : ByteArray).size = 2 := rfl
          omega
        obtain ⟨jb, hjb⟩ : ∃ j_ : Int, mn (a1.size : Int) 800 = j_ := ⟨_, rfl⟩
        have hjb_ : (if 800 < (a1.size : Int) then 800 else (a1.size : Int)) = jb := hjb
        have hjb0 : 0 ≤ jb ∧ jb ≤ a1.size ∧ jb ≤ 800 ∧ jb.toNat = min a1.size 800 := by rw [← hjb]; unfold mn; split <;> omega
        have b1 : decide (0 ≤ jb) = true := decide_eq_true hjb0.1
        have b1' := eq_true hjb0.1
        have b2 : decide (jb ≤ (a1.size : Int)) = true := decide_eq_true hjb0.2.1
        have b2' := eq_true hjb0.2.1
        obtain ⟨sb, hsb⟩ : ∃ j_ : ByteArray, a1.extract 0 (jb : Int).toNat = j_ := ⟨_, rfl⟩
        have hsb' : sb = a1.extract 0 (min a1.size 800) := by rw [← hsb, hjb0.2.2.2]
        have hsbz : sb.size < 4294967281 := by rw [hsb', ByteArray.size_extract]; omega
        obtain ⟨ps, hps⟩ : ∃ ps, ps = mdParts a1 := ⟨_, rfl⟩
        have HPS := Aside0.mk hps
        have hpq : Lib.splitB (⟨#[120]⟩ : ByteArray) 1 (Lib.countB sb (⟨#[120]⟩ : ByteArray)) sb = ps := by rw [hps, hsb']; rfl
        have hpl : Lib.countB sb (⟨#[120]⟩ : ByteArray) + 1 = ps.length := by rw [hps, (mdParts_small a1).2.2, hsb']
        have HPQ := Aside0.mk hpq
        have HPL := Aside0.mk hpl
        clear hps hpq hpl hjb0 hsb'
        go_wp2_with (first | (go_at_call 60; (with_reducible refine (Tryd.Builder_WriteString_k g g (Lib.byteCells (mdHead l0 (min l0.length 12))) _ _ HI.out hF1 (by have := HZ.out; omega)).mono ?_); rintro e3 w3 ⟨rfl, hI3, hb3, hk3⟩) | (go_at_call 71; obtain ⟨m_, hm_⟩ := (HGl.out.below (HB.out.trans (hb3.mono (by have := Hg.out; omega)))).mx; (with_reducible refine (Tryd.strings_SplitAfter sb (⟨#[120]⟩ : ByteArray) m_ _ hsbz hm_ (by decide)).mono ?_); rintro e4 w4 ⟨rfl, hw4⟩; rw [HPL.out]; rw [show (⟨#[120]⟩ : ByteArray).size = 1 from rfl, HPQ.out] at hw4))
        obtain ⟨gp, hgp⟩ : ∃ gp, gp = w3.heap.size := ⟨_, rfl⟩
        rw [← hgp, ← hw4]
        obtain ⟨_, _, v6, hg6, _⟩ := IsBuilderF_at HI.out
        have hN3 := ownsRow_others HN.out hg6 (by decide) (by decide) hk3
        obtain ⟨pre, hpre⟩ : ∃ pre, pre = mdHead l0 (min l0.length 12) ++ [13, 10] := ⟨_, rfl⟩
        have hI3' : Lib.IsBuilderF 96 5 g g (Lib.byteCells (pre ++ mdBody ps 0)) w3 := by
          rw [hpre, show mdBody ps 0 = [] from rfl, List.append_nil, Lib.byteCells_append]
          exact .inr hI3
        have HI4 : Aside0 (Lib.IsBuilderF 96 5 g g (Lib.byteCells (pre ++ mdBody ps 0)) w4) := ⟨by rw [hw4]; exact hI3'.alloc _⟩
        have HN4 : Aside0 (w4.ownsRow g 9 1 u9 (min l0.length 12) (((l0.take 12).map mdName).map Value.string)) := ⟨by rw [hw4]; exact ownsRow_below hN3 (below_alloc (Below.refl _ _) _)⟩
        have HP4 : Aside0 (w4.heap[gp]? = some (.cells (ps.map Value.string).toArray 9 (0, 0))) := ⟨by rw [hw4, hgp]; exact blk_new _ _⟩
        have HB4 : Aside0 (Below w.heap.size w w4) := ⟨by rw [hw4]; exact below_alloc (HB.out.trans (hb3.mono (by have := Hg.out; omega))) _⟩
        have HZ4 : Aside0 (g + 1 ≤ gp ∧ gp < w4.heap.size) := ⟨by rw [hw4, hgp]; have := HZ.out; have := hb3.size; simp; omega⟩
        have HPRE := Aside0.mk hpre
        have HPM : Aside0 (pre.length ≤ 6002) := ⟨by rw [hpre, List.length_append]; have := md_fits l0 (k := min l0.length 12) (by omega); rw [Lib.byteCells, List.length_map] at this; simp only [List.length_cons, List.length_nil]; omega⟩
        clear hI3 hI3' hN3 hw4 hb3 hk3 hg6 hpre hgp hm_ hsbz hsb hjb hjb_ b1 b1' b2 b2' hF1 HI HN HB HZ
        go_loopw [124] (fun v124 w' => ∃ (x : Int) (k : Nat), v124 = .int .i64 x ∧ Aside0 (x = (k : Nat)) ∧ 0 ≤ x ∧ x ≤ ps.length ∧ Aside0 (Lib.IsBuilderF 96 5 g g (Lib.byteCells (pre ++ mdBody ps k)) w') ∧ Aside0 (w'.ownsRow g 9 1 u9 (min l0.length 12) (((l0.take 12).map mdName).map Value.string)) ∧ Aside0 (w'.heap[gp]? = some (.cells (ps.map Value.string).toArray 9 (0, 0))) ∧ Aside0 (Below w.heap.size w w') ∧ Aside0 (g + 1 ≤ gp ∧ gp < w'.heap.size)) (fun v124 _ => ps.length - (intOf v124).toNat)
        case atStart => exact ⟨0, 0, rfl, ⟨rfl⟩, Int.le_refl _, by omega, HI4, HN4, HP4, HB4, HZ4⟩
        case round =>
          clear HI4 HN4 HP4 HB4 HZ4
          obtain ⟨x, k, rfl, Hx, hx0, hx1, HI, HN, HP, HB, HZ⟩ := hrel
          by_cases hlt : x < (ps.length : Int)
          · have hd : decide (x < (ps.length : Int)) = true := decide_eq_true hlt
            have hkl : k < ps.length := by have := Hx.out; omega
            obtain ⟨pk, hpk⟩ : ∃ pk, pk = ps[k]'hkl := ⟨_, rfl⟩
            have hcp : wr.cell? ⟨gp, x.toNat, none⟩ = some (Value.string pk) := by
              have e : x.toNat = k := by have := Hx.out; omega
              rw [e, (blk_cell HP.out k), hpk]
              simp [List.getElem?_eq_getElem hkl]
            have hpz : pk.size ≤ 800 := (mdParts_small a1).1 pk (by rw [← HPS.out, hpk]; exact List.getElem_mem _)
            have hpz' : pk.size ≤ 9223372036854775807 := by omega
            have HPK : Aside0 (∃ h : k < ps.length, pk = ps[k]'h) := ⟨⟨hkl, hpk⟩⟩
            have HPZ := Aside0.mk hpz
            have HKK := Aside0.mk hkl
            have HG := Aside0.mk (IsBuilderF_at HI.out)
            have p1 := eq_true hx0
            have q1 := eq_true hlt
            clear hpk hpz hkl
            go_wp2_with (first | ((with_reducible refine gate_dst (N := 129) rfl ?_); (try (refine gate_guard (by rfl) ?_; dsimp only)); refine Kd.B_bytes _ 5 rfl (N := 129) rfl 9 39 _ pk rfl rfl Tryd.underlying9 Tryd.underlying39 Tryd.underlying5 (ok := fun _ => True) trivial hpz' (Below.refl _ _) (Nat.le_refl _) ?_; intro v129 w1 ho1 hb1 hg1_ hnew1_; clear hg1_ hnew1_; obtain ⟨bq, cq, eq_, hbq⟩ := B_at1 ho1; subst eq_))
            obtain ⟨y1, hy1⟩ : ∃ y1, y1 = Kd.numsOf pk := ⟨_, rfl⟩
            rw [← hy1] at ho1 ⊢
            have HO1 := Aside0.mk ho1
            have HB1 := Aside0.mk hb1
            have HY1 := Aside0.mk hy1
            have HBQ := Aside0.mk hbq
            clear ho1 hb1 hbq hy1 hx0 hx1 hlt hd hcp hpz' p1 q1
            go_loopw [132] (fun v132 w' => ∃ (y : Int) (m : Nat), v132 = .int .i64 y ∧ Aside0 (y = (m : Nat)) ∧ 0 ≤ y ∧ y ≤ y1.length ∧ Aside0 (Kd.B (Kd.int .u8) 5 w' wr.heap.size (fun _ => True) (.slice (some ⟨bq, 0, none⟩) y1.length cq) (mdBrush mdB m y1)) ∧ Aside0 (Below wr.heap.size wr w')) (fun v132 _ => y1.length - (intOf v132).toNat)
            case atStart => exact ⟨0, 0, rfl, ⟨rfl⟩, Int.le_refl _, by omega, ⟨by rw [mdBrush_zero]; exact HO1.out⟩, HB1⟩
            case round =>
              clear HO1 HB1
              obtain ⟨y, m, rfl, Hy, hy0, hy1, HQ, HB3⟩ := hrel
              by_cases c : y < (y1.length : Int)
              · have c0 : decide (y < (y1.length : Int)) = true := decide_eq_true c
                have hm : m < y1.length := by have := Hy.out; omega
                have hxl := mdBrush_length mdB m y1
                have hst := mdBrush_set mdB m y1 hm
                have hrd := mdBrush_rd mdB m y1 hm
                rw [← Hy.out] at hrd hst
                obtain ⟨xs, hxs⟩ : ∃ xs, xs = mdBrush mdB m y1 := ⟨_, rfl⟩
                rw [← hxs] at HQ hrd hxl hst
                have hrg : 0 ≤ rdOf (0 : Int) y1 y ∧ rdOf (0 : Int) y1 y < 256 := by rw [HY1.out]; exact numsOf_rd _ _
                have hxm := mdB_of hrg
                rw [← hrd] at hst hxm
                have HSY := Aside0.mk (hst _ hxm)
                have HMX : Aside0 (y1.length ≤ 9223372036854775807) := ⟨Kd.C_max (Kd.B_reads' HQ.out).2.2 |> fun h => by rw [hxl] at h; exact h⟩
                clear hrd hxs hrg hst hxl hm hxm
                obtain ⟨hx0, hf0⟩ := Kd.B_celln 0 HQ.out y hy0 c
                have HP := Kd.B_putg HQ.out y ((32 + (Int.tmod (rdOf 0 xs y) 95)) % 256)
                have p1 := eq_true hy0
                have q1 := eq_true c
                go_wp2
                have hwr : wrap64 (y + 1) = y + 1 := md_wrap hy0 (by have := HMX.out; omega)
                rw [hwr]
                refine ⟨⟨y + 1, m + 1, rfl, ⟨by have := Hy.out; omega⟩, by omega, by omega, ⟨?_⟩, ⟨?_⟩⟩, by simp only [intOf]; omega⟩
                · rw [← HSY.out, ← (show y.toNat = m by have := Hy.out; omega)]; exact HP.1
                · exact below_set HB3.out HBQ.out
              · have c0 : decide (y < (y1.length : Int)) = false := decide_eq_false c
                have hmy : m = y1.length := by have := Hy.out; omega
                subst hmy
                rw [mdBrush_all] at HQ
                obtain ⟨z1, hz1⟩ : ∃ z1, z1 = y1.map mdB := ⟨_, rfl⟩
                have hzl : y1.length = z1.length := by rw [hz1, List.length_map]
                rw [← hz1, hzl] at HQ
                rw [hzl] at c0 ⊢
                have HI1 : Aside0 (Lib.IsBuilderF 96 5 g g (Lib.byteCells (pre ++ mdBody ps k)) wr) := ⟨IsBuilderF_below HI.out HB3.out⟩
                have HN1 : Aside0 (wr.ownsRow g 9 1 u9 (min l0.length 12) (((l0.take 12).map mdName).map Value.string)) := ⟨ownsRow_below HN.out HB3.out⟩
                have HP1 : Aside0 (wr.heap[gp]? = some (.cells (ps.map Value.string).toArray 9 (0, 0))) := ⟨(HB3.out.block gp (blk_lt HP.out)).trans HP.out⟩
                have HBW1 : Aside0 (Below w.heap.size w wr) := ⟨HB.out.trans (HB3.out.mono HB.out.size)⟩
                have HZ1 : Aside0 (g + 1 ≤ gp ∧ gp < wr.heap.size) := ⟨HZ.out.1, Nat.lt_of_lt_of_le HZ.out.2 HB3.out.size⟩
                have hz1m : z1 = (Kd.numsOf pk).map mdB := by rw [hz1, HY1.out]
                have hz1s : z1.length ≤ 800 := by rw [hz1m, List.length_map, Kd.numsOf_length]; exact HPZ.out
                have hnw : ∀ j u, (z1.map (Value.int .u8))[j]? = some u → wr.cell? ((⟨bq, 0, none⟩ : Addr).add j) = some u := by
                  intro j u hj
                  rw [List.getElem?_map] at hj
                  obtain ⟨v, hv, rfl⟩ := Option.map_eq_some_iff.1 hj
                  obtain ⟨hj1, hj2⟩ := List.getElem?_eq_some_iff.1 hv
                  have hc := (Kd.B_celln 0 HQ.out (j : Int) (by omega) (by omega)).1
                  rw [add_plain]
                  rw [show (j : Int).toNat = j from rfl] at hc
                  rw [hc]
                  congr 2
                  unfold rdOf
                  rw [Int.toNat_natCast, List.getD_eq_getElem?_getD, hv]; rfl
                have hne : (⟨bq, 0, none⟩ : Addr).block ≠ g := by
                  have := HBQ.out; have := HZ.out
                  show bq ≠ g
                  omega
                have h1c : ∀ u ∈ z1.map (Value.int .u8), u.oneCell' = true := by
                  intro u hu
                  obtain ⟨v, _, rfl⟩ := List.mem_map.1 hu
                  rfl
                have hfit1 : (Lib.byteCells (pre ++ mdBody ps k)).length + z1.length ≤ 140737488355328 := by
                  have := mdBody_fits a1 k
                  have := HPM.out
                  rw [Lib.byteCells, List.length_map, List.length_append, HPS.out]; omega
                have hfit2 : (Lib.byteCells (pre ++ mdBody ps k) ++ z1.map (Value.int .u8)).length + (⟨#[13, 10]⟩ : ByteArray).size ≤ 140737488355328 := by
                  have e2 : (⟨#[13, 10]⟩ : ByteArray).size = 2 := rfl
                  have := mdBody_fits a1 k
                  have := HPM.out
                  rw [List.length_append, List.length_map, Lib.byteCells, List.length_map, List.length_append, HPS.out]; omega
                have HNW := Aside0.mk hnw
                have HF1 := Aside0.mk hfit1
                have HF2 := Aside0.mk hfit2
                have HZM := Aside0.mk hz1m
                clear hz1 hzl HI HN HP HB HZ HB3 HBQ Hy hy0 hy1 c hz1m hz1s hnw hfit1 hfit2
                go_wp2_with (first | (go_at_call 72; (with_reducible refine (Tryd.Builder_Write_k g g (Lib.byteCells (pre ++ mdBody ps k)) _ _ _ (z1.map (Value.int .u8)) _ HI1.out (List.length_map _) HNW.out hne h1c HF1.out (by have := HZ1.out; omega)).mono ?_); rintro e5 w5 ⟨rfl, hI5, hb5, hk5⟩; have hI5' : Lib.IsBuilderF 96 5 g g (Lib.byteCells (pre ++ mdBody ps k) ++ z1.map (Value.int .u8)) w5 := Or.inr hI5) | (go_at_call 60; (with_reducible refine (Tryd.Builder_WriteString_k g g (Lib.byteCells (pre ++ mdBody ps k) ++ z1.map (Value.int .u8)) (⟨#[13, 10]⟩ : ByteArray) _ hI5' HF2.out (Nat.le_trans (by have := HZ1.out; omega) hb5.size)).mono ?_); rintro e6 w6 ⟨rfl, hI6, hb6, hk6⟩))
                obtain ⟨pI, _, vI, hgI, _⟩ := IsBuilderF_at HI1.out
                obtain ⟨_, v5, hg5, _⟩ := id hI5
                obtain ⟨_, v6', hg6', _⟩ := id hI6
                have hgne : gp ≠ g := by have := HZ1.out; omega
                have hwr : wrap64 (x + 1) = x + 1 := md_wrap (by have := Hx.out; omega) (by have := Hx.out; have := HKK.out; have := (mdParts_small a1).2.1; rw [← HPS.out] at this; omega)
                rw [hwr]
                obtain ⟨hk9, hpk9⟩ := HPK.out
                refine ⟨⟨x + 1, k + 1, rfl, ⟨by have := Hx.out; omega⟩, by have := Hx.out; omega, by have := Hx.out; have := HKK.out; omega, ⟨md_bnext hk9 (by rw [HZM.out, hpk9]) hI6⟩, ⟨ownsRow_others (ownsRow_others HN1.out hgI (by decide) (by decide) hk5) hg5 (by decide) (by decide) hk6⟩, ⟨others_blk (others_blk HP1.out (by decide) hgne hk5) (by decide) hgne hk6⟩, ⟨(HBW1.out.trans (hb5.mono (by have := Hg.out; omega))).trans (hb6.mono (by have := Hg.out; omega))⟩, ⟨by have := HZ1.out; have := hb5.size; have := hb6.size; omega⟩⟩, by have := Hx.out; have := HKK.out; simp only [intOf]; omega⟩
          · have hd : decide (x < (ps.length : Int)) = false := decide_eq_false hlt
            have hk9 : k = ps.length := by have := Hx.out; omega
            subst hk9
            go_wp2_with (go_at_call 61; (with_reducible refine (Tryd.Builder_String_any_k g g (pre ++ mdBody ps ps.length) _ HI.out (by have := HZ.out; omega)).mono ?_); rintro e7 w7 ⟨rfl, hI7, hb7, hk7⟩)
            go_ret2
            obtain ⟨p6, _, v6, hg6, _⟩ := IsBuilderF_at HI.out
            have hN7 := ownsRow_others HN.out hg6 (by decide) (by decide) hk7
            have hl : (((l0.take 12).map mdName)).length = min l0.length 12 := by rw [List.length_map, List.length_take]; omega
            have htx : (⟨(pre ++ mdBody ps ps.length).toArray⟩ : ByteArray) = mdText l0 a1 false := by
              unfold mdText
              rw [if_neg (by decide), HPRE.out, HPS.out, List.append_assoc]; rfl
            rw [htx]
            refine ⟨_, rfl, Kd.R_of_own ?_ (fun _ _ => trivial), HB.out.trans (hb7.mono (by have := Hg.out; omega))⟩
            rw [hl, ← Hg.out]; exact hN7
  · rw [if_neg hok] at h; cases h


/-! ### strings_ContainsAny: function 36 (by hand) -/
def strings_ContainsAny.f (a0 a1 : ByteArray) : Option Bool := if a0.size ≤ 1000000 ∧ a1.size ≤ 1000000 ∧ (a0.data.toList.all fun b => decide (b.toNat < 128)) = true ∧ (a1.data.toList.all fun b => decide (b.toNat < 128)) = true then some (Lib.containsAny a0.data.toList a1.data.toList) else none
theorem strings_ContainsAny.calls (a0 a1 : ByteArray) (r : Bool) (w : World) (h : strings_ContainsAny.f a0 a1 = some r) :
    Calls Tryd.prog 36 #[.string a0, .string a1] w fun e w' => e = .returned (.bool r) ∧ Below w.heap.size w w' := by
  unfold strings_ContainsAny.f at h
  split at h
  · rename_i hs
    obtain rfl := Option.some.inj h
    refine Tryd.strings_ContainsAny_laid a0 a1 w (by omega) (by omega) (fun j b hj => ?_) (fun j b hj => ?_)
    · have := List.all_eq_true.1 hs.2.2.1 b (List.mem_of_getElem? hj)
      simpa using this
    · have := List.all_eq_true.1 hs.2.2.2 b (List.mem_of_getElem? hj)
      simpa using this
  · cases h


end Go.Proofs.YtdciiahlakgikaaDoor.Q
end
section
namespace Go.Proofs.YtdciiahlakgikaaDoor.Q
open Go.RowKit Go.Proofs.YtdciiahlakgikaaDoorW.PrintWords Go.Proofs.YtdciiahlakgikaaDoorW.PrintLast Go.Proofs.YtdciiahlakgikaaDoorW.PrintMore
attribute [local go_sem] max2_int min2_int max_two min_two max_three min_three max_four min_four   -- for this text's walks alone
set_option linter.unusedVariables false
set_option linter.unusedSimpArgs false

/-! ### postriderlaw07_HeadBytes: function 7 -/
mutual
def postriderlaw07_HeadBytes.j0 : Nat → ByteArray → List ByteArray → Bool → ByteArray → Int → Bool → List (S41) → ByteArray → Bool → Option (Bool)
 | 0, _, _, _, _, _, _, _, _, _ => none
 | k + 1, x7, x8, x55, x258000, x258001, x258002, x269000, x269001, x269002 => if x55 = true then (some false) else (postriderlaw07_HeadBytes.l0 k x7 x8 x269000 (x269000.length : Int) 0 x258000 x258001 x258002 x269000 x269001 x269002)
def postriderlaw07_HeadBytes.l0 : Nat → ByteArray → List ByteArray → List (S41) → Int → Int → ByteArray → Int → Bool → List (S41) → ByteArray → Bool → Option (Bool)
 | 0, _, _, _, _, _, _, _, _, _, _, _ => none
 | k + 1, x7, x8, x57, x58, x59, x258000, x258001, x258002, x269000, x269001, x269002 => if x59 < x58 then (if 0 ≤ x59 then (if x59 < (x57.length : Int) then (if x59 < (x8.length : Int) then (if ((rd_T41 x57 x59).f0).toList = (rdOf ByteArray.empty x8 x59).toList then ((strings_ContainsAny.f ((rd_T41 x57 x59).f1) (⟨#[13, 10]⟩ : ByteArray)).bind fun t274 => (if t274 = true then (some false) else ((strings_Trim.f ((rd_T41 x57 x59).f1) (⟨#[32, 9]⟩ : ByteArray)).bind fun t275 => (if ((rd_T41 x57 x59).f1).toList = t275.toList then (postriderlaw07_HeadBytes.l0 k x7 x8 x57 x58 (wrap64 (x59 + 1)) x258000 x258001 x258002 x269000 x269001 x269002) else (some false))))) else (some false)) else (none)) else (none)) else (none)) else (if 0 ≤ (mn (x258000.size : Int) 400) then (if (mn (x258000.size : Int) 400) ≤ (x258000.size : Int) then (if (x258000.extract 0 ((mn (x258000.size : Int) 400) : Int).toNat).size ≤ 9223372036854775807 then ((some (Kd.numsOf (x258000.extract 0 ((mn (x258000.size : Int) 400) : Int).toNat) : List Int)).bind fun y276 => (postriderlaw07_HeadBytes.l1 k x7 x8 y276 (y276.length : Int) 0 x258000 x258001 x258002 x269000 x269001 x269002)) else (none)) else (none)) else (none))
def postriderlaw07_HeadBytes.l1 : Nat → ByteArray → List ByteArray → List Int → Int → Int → ByteArray → Int → Bool → List (S41) → ByteArray → Bool → Option (Bool)
 | 0, _, _, _, _, _, _, _, _, _, _, _ => none
 | k + 1, x7, x8, x13, x94, x95, x258000, x258001, x258002, x269000, x269001, x269002 => if x95 < x94 then (if 0 ≤ x95 then (if x95 < (x13.length : Int) then (postriderlaw07_HeadBytes.l1 k x7 x8 (x13.set (x95 : Int).toNat ((32 + (Int.tmod (rd x13 x95) 95)) % 256)) x94 (wrap64 (x95 + 1)) x258000 x258001 x258002 x269000 x269001 x269002) else (none)) else (none)) else ((head_Message_Ahead.f k x269000 x269001 x269002 (⟨#[88, 45, 78, 101, 119]⟩ : ByteArray) (strOfNums x13)).bind fun bt281 => (if bt281.2.2.2 = 0 then ((head_Message_May.f k bt281.1 bt281.2.1 bt281.2.2.1).bind fun t288 => (if t288 = true then ((head_Message_Text.f bt281.1 bt281.2.1 bt281.2.2.1).bind fun t289 => ((strings_HasSuffix.f t289 x7).bind fun t290 => (if t290 = true then (if (bt281.1.length : Int) = (wrap64 ((x269000.length : Int) + 1)) then (if 0 < (bt281.1.length : Int) then ((strings_Trim.f (strOfNums x13) (⟨#[32]⟩ : ByteArray)).bind fun t292 => (postriderlaw07_HeadBytes.j3 k x7 x8 x13 (((rd_T41 bt281.1 0).f1).toList != t292.toList) x258000 x258001 x258002 x269000 x269001 x269002)) else (none)) else (postriderlaw07_HeadBytes.j3 k x7 x8 x13 true x258000 x258001 x258002 x269000 x269001 x269002)) else (postriderlaw07_HeadBytes.j3 k x7 x8 x13 true x258000 x258001 x258002 x269000 x269001 x269002)))) else (postriderlaw07_HeadBytes.j3 k x7 x8 x13 true x258000 x258001 x258002 x269000 x269001 x269002))) else (postriderlaw07_HeadBytes.j3 k x7 x8 x13 true x258000 x258001 x258002 x269000 x269001 x269002)))
def postriderlaw07_HeadBytes.j3 : Nat → ByteArray → List ByteArray → List Int → Bool → ByteArray → Int → Bool → List (S41) → ByteArray → Bool → Option (Bool)
 | 0, _, _, _, _, _, _, _, _, _, _ => none
 | k + 1, x7, x8, x13, x149, x258000, x258001, x258002, x269000, x269001, x269002 => if x149 = true then (some false) else (if (x269000.length : Int) = 0 then ((head_Message_Put.f k x269000 x269001 x269002 0 (⟨#[]⟩ : ByteArray)).bind fun bt293 => (if bt293.2.2.2 = 1 then ((postriderlaw07_wakes.f k).bind fun t300 => (some t300)) else (some false))) else ((head_Message_Put.f k x269000 x269001 x269002 (Int.tmod (wrap64 (x258001)) (x269000.length : Int)) (strOfNums x13)).bind fun bt301 => (if bt301.2.2.2 = 0 then ((head_Message_May.f k bt301.1 bt301.2.1 bt301.2.2.1).bind fun t308 => (if t308 = true then (if bt301.2.1.toList = x269001.toList then (if (bt301.1.length : Int) = (x269000.length : Int) then (if 0 ≤ (Int.tmod (wrap64 (x258001)) (x269000.length : Int)) then (if (Int.tmod (wrap64 (x258001)) (x269000.length : Int)) < (bt301.1.length : Int) then (if (Int.tmod (wrap64 (x258001)) (x269000.length : Int)) < (x8.length : Int) then (if ((rd_T41 bt301.1 (Int.tmod (wrap64 (x258001)) (x269000.length : Int))).f0).toList = (rdOf ByteArray.empty x8 (Int.tmod (wrap64 (x258001)) (x269000.length : Int))).toList then ((strings_Trim.f (strOfNums x13) (⟨#[32]⟩ : ByteArray)).bind fun t312 => (postriderlaw07_HeadBytes.j4 k x7 (Int.tmod (wrap64 (x258001)) (x269000.length : Int)) (((rd_T41 bt301.1 (Int.tmod (wrap64 (x258001)) (x269000.length : Int))).f1).toList != t312.toList) x269000 x269001 x269002 bt301.1 bt301.2.1 bt301.2.2.1)) else (postriderlaw07_HeadBytes.j4 k x7 (Int.tmod (wrap64 (x258001)) (x269000.length : Int)) true x269000 x269001 x269002 bt301.1 bt301.2.1 bt301.2.2.1)) else (none)) else (none)) else (none)) else (postriderlaw07_HeadBytes.j4 k x7 (Int.tmod (wrap64 (x258001)) (x269000.length : Int)) true x269000 x269001 x269002 bt301.1 bt301.2.1 bt301.2.2.1)) else (postriderlaw07_HeadBytes.j4 k x7 (Int.tmod (wrap64 (x258001)) (x269000.length : Int)) true x269000 x269001 x269002 bt301.1 bt301.2.1 bt301.2.2.1)) else (postriderlaw07_HeadBytes.j4 k x7 (Int.tmod (wrap64 (x258001)) (x269000.length : Int)) true x269000 x269001 x269002 bt301.1 bt301.2.1 bt301.2.2.1))) else (postriderlaw07_HeadBytes.j4 k x7 (Int.tmod (wrap64 (x258001)) (x269000.length : Int)) true x269000 x269001 x269002 bt301.1 bt301.2.1 bt301.2.2.1))))
def postriderlaw07_HeadBytes.j4 : Nat → ByteArray → Int → Bool → List (S41) → ByteArray → Bool → List (S41) → ByteArray → Bool → Option (Bool)
 | 0, _, _, _, _, _, _, _, _, _ => none
 | k + 1, x7, x19, x226, x269000, x269001, x269002, x308000, x308001, x308002 => if x226 = true then (some false) else (if 0 ≤ x19 then (if x19 ≤ (x308000.length : Int) then (if x19 ≤ (x269000.length : Int) then ((slices_Equal_head_Field_head_Field.f k (x308000.take (x19 : Int).toNat) (x269000.take (x19 : Int).toNat)).bind fun t321 => (if t321 = true then (if 0 ≤ (wrap64 (x19 + 1)) then (if (wrap64 (x19 + 1)) ≤ (x308000.length : Int) then (if (wrap64 (x19 + 1)) ≤ (x269000.length : Int) then ((slices_Equal_head_Field_head_Field.f k (x308000.drop ((wrap64 (x19 + 1)) : Int).toNat) (x269000.drop ((wrap64 (x19 + 1)) : Int).toNat)).bind fun t330 => (if t330 = true then ((head_Message_Text.f x269000 x269001 x269002).bind fun t331 => (if t331.toList = x7.toList then ((postriderlaw07_wakes.f k).bind fun t332 => (some t332)) else (some false))) else (some false))) else (none)) else (none)) else (none)) else (some false))) else (none)) else (none)) else (none))
end
def postriderlaw07_HeadBytes.f (k : Nat) (l0 : List (S111)) (a1 : ByteArray) (a2_0 : ByteArray) (a2_1 : Int) (a2_2 : Bool) : Option (Bool) := (postriderlaw07_made.f l0 a1 a2_2).bind fun bt258 => ((head_Parse.f k bt258.1).bind fun bt262 => (if bt262.2.2.2 = 0 then ((head_Message_Text.f bt262.1 bt262.2.1 bt262.2.2.1).bind fun t269 => (if t269.toList = bt258.1.toList then ((head_Message_May.f k bt262.1 bt262.2.1 bt262.2.2.1).bind fun t270 => (if t270 = true then (postriderlaw07_HeadBytes.j0 k bt258.1 bt258.2 ((bt262.1.length : Int) != (bt258.2.length : Int)) a2_0 a2_1 a2_2 bt262.1 bt262.2.1 bt262.2.2.1) else (postriderlaw07_HeadBytes.j0 k bt258.1 bt258.2 true a2_0 a2_1 a2_2 bt262.1 bt262.2.1 bt262.2.2.1))) else (postriderlaw07_HeadBytes.j0 k bt258.1 bt258.2 true a2_0 a2_1 a2_2 bt262.1 bt262.2.1 bt262.2.2.1))) else (postriderlaw07_HeadBytes.j0 k bt258.1 bt258.2 true a2_0 a2_1 a2_2 bt262.1 bt262.2.1 bt262.2.2.1)))
theorem postriderlaw07_HeadBytes.mono_l : ∀ k, (∀ y0 y1 y2 y3 y4 y5 y6 y7 y8, LeO (postriderlaw07_HeadBytes.j0 k y0 y1 y2 y3 y4 y5 y6 y7 y8) (postriderlaw07_HeadBytes.j0 (k + 1) y0 y1 y2 y3 y4 y5 y6 y7 y8)) ∧ (∀ y0 y1 y2 y3 y4 y5 y6 y7 y8 y9 y10, LeO (postriderlaw07_HeadBytes.l0 k y0 y1 y2 y3 y4 y5 y6 y7 y8 y9 y10) (postriderlaw07_HeadBytes.l0 (k + 1) y0 y1 y2 y3 y4 y5 y6 y7 y8 y9 y10)) ∧ (∀ y0 y1 y2 y3 y4 y5 y6 y7 y8 y9 y10, LeO (postriderlaw07_HeadBytes.l1 k y0 y1 y2 y3 y4 y5 y6 y7 y8 y9 y10) (postriderlaw07_HeadBytes.l1 (k + 1) y0 y1 y2 y3 y4 y5 y6 y7 y8 y9 y10)) ∧ (∀ y0 y1 y2 y3 y4 y5 y6 y7 y8 y9, LeO (postriderlaw07_HeadBytes.j3 k y0 y1 y2 y3 y4 y5 y6 y7 y8 y9) (postriderlaw07_HeadBytes.j3 (k + 1) y0 y1 y2 y3 y4 y5 y6 y7 y8 y9)) ∧ (∀ y0 y1 y2 y3 y4 y5 y6 y7 y8, LeO (postriderlaw07_HeadBytes.j4 k y0 y1 y2 y3 y4 y5 y6 y7 y8) (postriderlaw07_HeadBytes.j4 (k + 1) y0 y1 y2 y3 y4 y5 y6 y7 y8))
 | 0 => ⟨fun _ _ _ _ _ _ _ _ _ r h => by simp [postriderlaw07_HeadBytes.j0] at h, fun _ _ _ _ _ _ _ _ _ _ _ r h => by simp [postriderlaw07_HeadBytes.l0] at h, fun _ _ _ _ _ _ _ _ _ _ _ r h => by simp [postriderlaw07_HeadBytes.l1] at h, fun _ _ _ _ _ _ _ _ _ _ r h => by simp [postriderlaw07_HeadBytes.j3] at h, fun _ _ _ _ _ _ _ _ _ r h => by simp [postriderlaw07_HeadBytes.j4] at h⟩
 | k + 1 => by
  obtain ⟨ih0, ih1, ih2, ih3, ih4⟩ := postriderlaw07_HeadBytes.mono_l k
  refine ⟨?_, ?_, ?_, ?_, ?_⟩
  ·intro y0 y1 y2 y3 y4 y5 y6 y7 y8
   unfold postriderlaw07_HeadBytes.j0
   repeat' first
   | (with_reducible exact ih0 _ _ _ _ _ _ _ _ _)
   | (with_reducible exact ih1 _ _ _ _ _ _ _ _ _ _ _)
   | (with_reducible exact ih2 _ _ _ _ _ _ _ _ _ _ _)
   | (with_reducible exact ih3 _ _ _ _ _ _ _ _ _ _)
   | (with_reducible exact ih4 _ _ _ _ _ _ _ _ _)
   | (with_reducible exact head_Message_Ahead.mono _ _ _ _ _ _)
   | (with_reducible exact head_Message_May.mono _ _ _ _)
   | (with_reducible exact head_Message_Put.mono _ _ _ _ _ _)
   | (with_reducible exact head_Parse.mono _ _)
   | (with_reducible exact postriderlaw07_wakes.mono _)
   | (with_reducible exact slices_Equal_head_Field_head_Field.mono _ _ _)
   | (with_reducible exact LeO.refl _)
   | (with_reducible exact LeO.none _)
   | (with_reducible refine LeO.ite ?_ ?_)
   | (with_reducible refine LeO.bind ?_ (fun _ => ?_))
   | exact ih0 _ _ _ _ _ _ _ _ _
   | exact ih1 _ _ _ _ _ _ _ _ _ _ _
   | exact ih2 _ _ _ _ _ _ _ _ _ _ _
   | exact ih3 _ _ _ _ _ _ _ _ _ _
   | exact ih4 _ _ _ _ _ _ _ _ _
   | exact head_Message_Ahead.mono _ _ _ _ _ _
   | exact head_Message_May.mono _ _ _ _
   | exact head_Message_Put.mono _ _ _ _ _ _
   | exact head_Parse.mono _ _
   | exact postriderlaw07_wakes.mono _
   | exact slices_Equal_head_Field_head_Field.mono _ _ _
   | exact LeO.none _
   | refine LeO.ite ?_ ?_
   | refine LeO.bind ?_ (fun _ => ?_)
  ·intro y0 y1 y2 y3 y4 y5 y6 y7 y8 y9 y10
   unfold postriderlaw07_HeadBytes.l0
   repeat' first
   | (with_reducible exact ih0 _ _ _ _ _ _ _ _ _)
   | (with_reducible exact ih1 _ _ _ _ _ _ _ _ _ _ _)
   | (with_reducible exact ih2 _ _ _ _ _ _ _ _ _ _ _)
   | (with_reducible exact ih3 _ _ _ _ _ _ _ _ _ _)
   | (with_reducible exact ih4 _ _ _ _ _ _ _ _ _)
   | (with_reducible exact head_Message_Ahead.mono _ _ _ _ _ _)
   | (with_reducible exact head_Message_May.mono _ _ _ _)
   | (with_reducible exact head_Message_Put.mono _ _ _ _ _ _)
   | (with_reducible exact head_Parse.mono _ _)
   | (with_reducible exact postriderlaw07_wakes.mono _)
   | (with_reducible exact slices_Equal_head_Field_head_Field.mono _ _ _)
   | (with_reducible exact LeO.refl _)
   | (with_reducible exact LeO.none _)
   | (with_reducible refine LeO.ite ?_ ?_)
   | (with_reducible refine LeO.bind ?_ (fun _ => ?_))
   | exact ih0 _ _ _ _ _ _ _ _ _
   | exact ih1 _ _ _ _ _ _ _ _ _ _ _
   | exact ih2 _ _ _ _ _ _ _ _ _ _ _
   | exact ih3 _ _ _ _ _ _ _ _ _ _
   | exact ih4 _ _ _ _ _ _ _ _ _
   | exact head_Message_Ahead.mono _ _ _ _ _ _
   | exact head_Message_May.mono _ _ _ _
   | exact head_Message_Put.mono _ _ _ _ _ _
   | exact head_Parse.mono _ _
   | exact postriderlaw07_wakes.mono _
   | exact slices_Equal_head_Field_head_Field.mono _ _ _
   | exact LeO.none _
   | refine LeO.ite ?_ ?_
   | refine LeO.bind ?_ (fun _ => ?_)
  ·intro y0 y1 y2 y3 y4 y5 y6 y7 y8 y9 y10
   unfold postriderlaw07_HeadBytes.l1
   repeat' first
   | (with_reducible exact ih0 _ _ _ _ _ _ _ _ _)
   | (with_reducible exact ih1 _ _ _ _ _ _ _ _ _ _ _)
   | (with_reducible exact ih2 _ _ _ _ _ _ _ _ _ _ _)
   | (with_reducible exact ih3 _ _ _ _ _ _ _ _ _ _)
   | (with_reducible exact ih4 _ _ _ _ _ _ _ _ _)
   | (with_reducible exact head_Message_Ahead.mono _ _ _ _ _ _)
   | (with_reducible exact head_Message_May.mono _ _ _ _)
   | (with_reducible exact head_Message_Put.mono _ _ _ _ _ _)
   | (with_reducible exact head_Parse.mono _ _)
   | (with_reducible exact postriderlaw07_wakes.mono _)
   | (with_reducible exact slices_Equal_head_Field_head_Field.mono _ _ _)
   | (with_reducible exact LeO.refl _)
   | (with_reducible exact LeO.none _)
   | (with_reducible refine LeO.ite ?_ ?_)
   | (with_reducible refine LeO.bind ?_ (fun _ => ?_))
   | exact ih0 _ _ _ _ _ _ _ _ _
   | exact ih1 _ _ _ _ _ _ _ _ _ _ _
   | exact ih2 _ _ _ _ _ _ _ _ _ _ _
   | exact ih3 _ _ _ _ _ _ _ _ _ _
   | exact ih4 _ _ _ _ _ _ _ _ _
   | exact head_Message_Ahead.mono _ _ _ _ _ _
   | exact head_Message_May.mono _ _ _ _
   | exact head_Message_Put.mono _ _ _ _ _ _
   | exact head_Parse.mono _ _
   | exact postriderlaw07_wakes.mono _
   | exact slices_Equal_head_Field_head_Field.mono _ _ _
   | exact LeO.none _
   | refine LeO.ite ?_ ?_
   | refine LeO.bind ?_ (fun _ => ?_)
  ·intro y0 y1 y2 y3 y4 y5 y6 y7 y8 y9
   unfold postriderlaw07_HeadBytes.j3
   repeat' first
   | (with_reducible exact ih0 _ _ _ _ _ _ _ _ _)
   | (with_reducible exact ih1 _ _ _ _ _ _ _ _ _ _ _)
   | (with_reducible exact ih2 _ _ _ _ _ _ _ _ _ _ _)
   | (with_reducible exact ih3 _ _ _ _ _ _ _ _ _ _)
   | (with_reducible exact ih4 _ _ _ _ _ _ _ _ _)
   | (with_reducible exact head_Message_Ahead.mono _ _ _ _ _ _)
   | (with_reducible exact head_Message_May.mono _ _ _ _)
   | (with_reducible exact head_Message_Put.mono _ _ _ _ _ _)
   | (with_reducible exact head_Parse.mono _ _)
   | (with_reducible exact postriderlaw07_wakes.mono _)
   | (with_reducible exact slices_Equal_head_Field_head_Field.mono _ _ _)
   | (with_reducible exact LeO.refl _)
   | (with_reducible exact LeO.none _)
   | (with_reducible refine LeO.ite ?_ ?_)
   | (with_reducible refine LeO.bind ?_ (fun _ => ?_))
   | exact ih0 _ _ _ _ _ _ _ _ _
   | exact ih1 _ _ _ _ _ _ _ _ _ _ _
   | exact ih2 _ _ _ _ _ _ _ _ _ _ _
   | exact ih3 _ _ _ _ _ _ _ _ _ _
   | exact ih4 _ _ _ _ _ _ _ _ _
   | exact head_Message_Ahead.mono _ _ _ _ _ _
   | exact head_Message_May.mono _ _ _ _
   | exact head_Message_Put.mono _ _ _ _ _ _
   | exact head_Parse.mono _ _
   | exact postriderlaw07_wakes.mono _
   | exact slices_Equal_head_Field_head_Field.mono _ _ _
   | exact LeO.none _
   | refine LeO.ite ?_ ?_
   | refine LeO.bind ?_ (fun _ => ?_)
  ·intro y0 y1 y2 y3 y4 y5 y6 y7 y8
   unfold postriderlaw07_HeadBytes.j4
   repeat' first
   | (with_reducible exact ih0 _ _ _ _ _ _ _ _ _)
   | (with_reducible exact ih1 _ _ _ _ _ _ _ _ _ _ _)
   | (with_reducible exact ih2 _ _ _ _ _ _ _ _ _ _ _)
   | (with_reducible exact ih3 _ _ _ _ _ _ _ _ _ _)
   | (with_reducible exact ih4 _ _ _ _ _ _ _ _ _)
   | (with_reducible exact head_Message_Ahead.mono _ _ _ _ _ _)
   | (with_reducible exact head_Message_May.mono _ _ _ _)
   | (with_reducible exact head_Message_Put.mono _ _ _ _ _ _)
   | (with_reducible exact head_Parse.mono _ _)
   | (with_reducible exact postriderlaw07_wakes.mono _)
   | (with_reducible exact slices_Equal_head_Field_head_Field.mono _ _ _)
   | (with_reducible exact LeO.refl _)
   | (with_reducible exact LeO.none _)
   | (with_reducible refine LeO.ite ?_ ?_)
   | (with_reducible refine LeO.bind ?_ (fun _ => ?_))
   | exact ih0 _ _ _ _ _ _ _ _ _
   | exact ih1 _ _ _ _ _ _ _ _ _ _ _
   | exact ih2 _ _ _ _ _ _ _ _ _ _ _
   | exact ih3 _ _ _ _ _ _ _ _ _ _
   | exact ih4 _ _ _ _ _ _ _ _ _
   | exact head_Message_Ahead.mono _ _ _ _ _ _
   | exact head_Message_May.mono _ _ _ _
   | exact head_Message_Put.mono _ _ _ _ _ _
   | exact head_Parse.mono _ _
   | exact postriderlaw07_wakes.mono _
   | exact slices_Equal_head_Field_head_Field.mono _ _ _
   | exact LeO.none _
   | refine LeO.ite ?_ ?_
   | refine LeO.bind ?_ (fun _ => ?_)
theorem postriderlaw07_HeadBytes.mono : ∀ a0 a1 a2 a3 a4 k, LeO (postriderlaw07_HeadBytes.f k a0 a1 a2 a3 a4) (postriderlaw07_HeadBytes.f (k + 1) a0 a1 a2 a3 a4) := by
 intro a0 a1 a2 a3 a4 k
 obtain ⟨ih0, ih1, ih2, ih3, ih4⟩ := postriderlaw07_HeadBytes.mono_l k
 unfold postriderlaw07_HeadBytes.f
 repeat' first
   | (with_reducible exact ih0 _ _ _ _ _ _ _ _ _)
   | (with_reducible exact ih1 _ _ _ _ _ _ _ _ _ _ _)
   | (with_reducible exact ih2 _ _ _ _ _ _ _ _ _ _ _)
   | (with_reducible exact ih3 _ _ _ _ _ _ _ _ _ _)
   | (with_reducible exact ih4 _ _ _ _ _ _ _ _ _)
   | (with_reducible exact head_Message_Ahead.mono _ _ _ _ _ _)
   | (with_reducible exact head_Message_May.mono _ _ _ _)
   | (with_reducible exact head_Message_Put.mono _ _ _ _ _ _)
   | (with_reducible exact head_Parse.mono _ _)
   | (with_reducible exact postriderlaw07_wakes.mono _)
   | (with_reducible exact slices_Equal_head_Field_head_Field.mono _ _ _)
   | (with_reducible exact LeO.refl _)
   | (with_reducible exact LeO.none _)
   | (with_reducible refine LeO.ite ?_ ?_)
   | (with_reducible refine LeO.bind ?_ (fun _ => ?_))
   | exact ih0 _ _ _ _ _ _ _ _ _
   | exact ih1 _ _ _ _ _ _ _ _ _ _ _
   | exact ih2 _ _ _ _ _ _ _ _ _ _ _
   | exact ih3 _ _ _ _ _ _ _ _ _ _
   | exact ih4 _ _ _ _ _ _ _ _ _
   | exact head_Message_Ahead.mono _ _ _ _ _ _
   | exact head_Message_May.mono _ _ _ _
   | exact head_Message_Put.mono _ _ _ _ _ _
   | exact head_Parse.mono _ _
   | exact postriderlaw07_wakes.mono _
   | exact slices_Equal_head_Field_head_Field.mono _ _ _
   | exact LeO.none _
   | refine LeO.ite ?_ ?_
   | refine LeO.bind ?_ (fun _ => ?_)
def postriderlaw07_HeadBytes.T8 : Bool × List (List Nat × List Nat) := (true, [([], []), ([0], [0]), ([], []), ([], []), ([2, 3], [2, 3]), ([4], [4]), ([1, 5], [1, 5]), ([6], [6]), ([7], [7]), ([8, 7], [7, 8]), ([9, 7, 7], [7, 9]), ([7, 10], [7, 10]), ([11, 10], [11]), ([12], [12]), ([13, 12], [12, 13]), ([12], [12]), ([15, 12], [12, 15]), ([16, 12, 12], [12, 16]), ([14, 17, 12], [12, 14, 17]), ([12, 18], [12, 18])])
def postriderlaw07_HeadBytes.B8 : List Nat := [0, 1, 0, 0, 12, 28, 63, 127, 255, 511, 1023, 2047, 4095, 8191, 16383, 8191, 40959, 106495, 262143, 524287]
theorem postriderlaw07_HeadBytes.tab8 : rtab .any (opsOf Tryd.f7 8) = postriderlaw07_HeadBytes.T8 := by kernel_rfl
theorem postriderlaw07_HeadBytes.bits8 : waitsOk postriderlaw07_HeadBytes.T8.2 postriderlaw07_HeadBytes.B8 = true := by kernel_rfl
def postriderlaw07_HeadBytes.T18 : Bool × List (List Nat × List Nat) := (true, [([], []), ([0], [0]), ([1], [1]), ([2], [2]), ([3, 2, 2], [2, 3]), ([4, 2], [2, 4]), ([2, 5], [2, 5]), ([6, 4], [6]), ([7], [7]), ([8, 7, 7], [7, 8]), ([7], [7]), ([9, 10, 9, 7], [7, 9, 10]), ([11, 7], [7, 11]), ([7, 12], [7, 12]), ([13, 11], [13]), ([14], [14]), ([15, 14], [14, 15]), ([16, 14], [14, 16]), ([14], [14]), ([18, 14], [14, 18]), ([19, 14], [14, 19]), ([20, 14], [14, 20]), ([17, 21, 14], [14, 17, 21]), ([14, 22], [14, 22]), ([23, 14], [23]), ([24], [24]), ([25, 24], [24, 25]), ([26, 24], [24, 26]), ([27, 24], [24, 27]), ([28, 24], [24, 28]), ([24], [24]), ([30, 24], [24, 30]), ([31, 24, 24], [24, 31]), ([29, 32, 24], [24, 29, 32]), ([24, 33], [24, 33])])
def postriderlaw07_HeadBytes.B18 : List Nat := [0, 1, 3, 7, 15, 31, 63, 127, 255, 511, 255, 2047, 4095, 8191, 16383, 32767, 65535, 131071, 32767, 294911, 819199, 1867775, 4194303, 8388607, 16777215, 33554431, 67108863, 134217727, 268435455, 536870911, 33554431, 1107296255, 3254779903, 8589934591, 17179869183]
theorem postriderlaw07_HeadBytes.tab18 : rtab .any (opsOf Tryd.f7 18) = postriderlaw07_HeadBytes.T18 := by kernel_rfl
theorem postriderlaw07_HeadBytes.bits18 : waitsOk postriderlaw07_HeadBytes.T18.2 postriderlaw07_HeadBytes.B18 = true := by kernel_rfl
def postriderlaw07_HeadBytes.T25 : Bool × List (List Nat × List Nat) := (true, [([], []), ([0], [0]), ([1], [1]), ([2], [2]), ([3, 2, 2], [2, 3]), ([4, 2], [2, 4]), ([2, 5], [2, 5]), ([6, 4], [6]), ([7], [7]), ([8, 7], [7, 8]), ([7], [7]), ([10, 7], [7, 10]), ([9, 11, 7], [7, 9, 11]), ([7, 12], [7, 12]), ([13, 7], [13]), ([14], [14]), ([15, 14], [14, 15]), ([16, 14], [14, 16]), ([14], [14]), ([18, 14], [14, 18]), ([19, 14], [14, 19]), ([17, 20, 14], [14, 17, 20]), ([14, 21], [14, 21]), ([22, 14], [22]), ([23], [23]), ([24, 23], [23, 24]), ([23], [23]), ([25, 26, 23], [23, 25, 26]), ([27, 23], [23, 27]), ([28, 23], [23, 28]), ([23], [23]), ([23], [23]), ([30, 31, 23], [23, 30, 31]), ([32, 23], [23, 32]), ([29, 33, 23], [23, 29, 33]), ([23, 34], [23, 34]), ([35, 23], [35]), ([36], [36]), ([37, 36], [36, 37]), ([36], [36]), ([38, 39, 36], [36, 38, 39]), ([40, 36], [36, 40]), ([41, 36], [36, 41]), ([36], [36]), ([43, 36], [36, 43]), ([44, 36, 36], [36, 44]), ([42, 45, 36], [36, 42, 45]), ([36, 46], [36, 46])])
def postriderlaw07_HeadBytes.B25 : List Nat := [0, 1, 3, 7, 15, 31, 63, 127, 255, 511, 255, 1279, 4095, 8191, 16383, 32767, 65535, 131071, 32767, 294911, 819199, 2097151, 4194303, 8388607, 16777215, 33554431, 16777215, 134217727, 268435455, 536870911, 16777215, 16777215, 3238002687, 7532969983, 17179869183, 34359738367, 68719476735, 137438953471, 274877906943, 137438953471, 1099511627775, 2199023255551, 4398046511103, 137438953471, 8933531975679, 26525718020095, 70368744177663, 140737488355327]
theorem postriderlaw07_HeadBytes.tab25 : rtab .any (opsOf Tryd.f7 25) = postriderlaw07_HeadBytes.T25 := by kernel_rfl
theorem postriderlaw07_HeadBytes.bits25 : waitsOk postriderlaw07_HeadBytes.T25.2 postriderlaw07_HeadBytes.B25 = true := by kernel_rfl
def postriderlaw07_HeadBytes.T27 : Bool × List (List Nat × List Nat) := (true, [([], []), ([0], [0]), ([], []), ([1, 2], [1, 2]), ([], []), ([4], [4]), ([], []), ([5, 6], [5, 6]), ([3, 7], [3, 7]), ([8, 8], [8]), ([9], [9]), ([10, 9], [9, 10]), ([9], [9]), ([12, 9], [9, 12]), ([11, 13, 9], [9, 11, 13]), ([9], [9]), ([15, 9], [9, 15]), ([9], [9]), ([17, 9], [9, 17]), ([16, 18, 9], [9, 16, 18]), ([14, 19, 9, 9], [9, 14, 19]), ([9, 20], [9, 20]), ([21, 20], [21]), ([22], [22]), ([23, 22, 22], [22, 23]), ([22], [22]), ([24, 25, 22], [22, 24, 25]), ([22, 26], [22, 26]), ([27, 24], [27]), ([28, 28], [28]), ([28, 29], [28, 29]), ([30, 29, 0, 1, 2, 3, 4, 5, 6, 7, 8, 9, 10, 11, 12, 13, 14, 15, 16, 17, 18, 19, 20, 21, 22, 23, 24, 25, 26, 27, 28, 29, 30], [30])])
def postriderlaw07_HeadBytes.B27 : List Nat := [0, 1, 0, 7, 0, 16, 0, 112, 255, 511, 1023, 2047, 1023, 5119, 16383, 1023, 33791, 1023, 132095, 492543, 1048575, 2097151, 4194303, 8388607, 16777215, 8388607, 67108863, 134217727, 268435455, 536870911, 1073741823, 2147483647]
theorem postriderlaw07_HeadBytes.tab27 : rtab .any (opsOf Tryd.f7 27) = postriderlaw07_HeadBytes.T27 := by kernel_rfl
theorem postriderlaw07_HeadBytes.bits27 : waitsOk postriderlaw07_HeadBytes.T27.2 postriderlaw07_HeadBytes.B27 = true := by kernel_rfl

end Go.Proofs.YtdciiahlakgikaaDoor.Q
end
