/- Walks of functions. -/
import Derived.Test.YtacjnapgdikhbaaGreatDoorProg
import Derived.Below
import Derived.Deep.Draws
import Derived.Deep.AppendLies
import Derived.Maps.AppendAt
import Derived.OwnWalk
import Derived.Laws.BytesArg
import Derived.Laws.MakeOwn
import Derived.Laws.OwnMore
import Derived.Deep.OwnRows
import Derived.Tactics
import Derived.Lib.ConvBytes
import Derived.Laws.Slices
import Derived.WalkKit
import Derived.KernelRfl
import Derived.RowKit3
import Derived.Deep.LoopGhost
import Derived.Deep.QuietTactic
import Derived.BigQuiet
import Derived.WideLaws
import Derived.Deep.DeepCutAuto
import Derived.Deep.CutBlock
import Derived.Deep.RegionHeld3
import Derived.Laws.Rows
import Derived.Lib.AppendStr
import Derived.ArgAppend
import Derived.Laws.IdiomCopy
import Derived.OrdersHeld
import Derived.Laws.BitsLemmas
import Derived.RowKit
import Derived.Laws.RangeString
import Derived.Laws.RangeAny
import Derived.LoopTactic
import Derived.Lib.Hide
import Derived.IntWalk
import Derived.Test.YtacjnapgdikhbaaGreatDoorG
import Derived.Test.YtacjnapgdikhbaaGreatDoorBR
import Derived.Test.YtacjnapgdikhbaaGreatDoorRS
import Derived.Test.YtacjnapgdikhbaaGreatDoorOP
import Derived.Test.YtacjnapgdikhbaaGreatDoorMP
import Derived.Test.YtacjnapgdikhbaaGreatDoorWS
import Derived.Test.YtacjnapgdikhbaaGreatDoorIT
import Derived.Test.YtacjnapgdikhbaaGreatDoorKB
import Derived.Test.YtacjnapgdikhbaaGreatDoorAR
import Derived.Test.YtacjnapgdikhbaaGreatDoorV
set_option linter.unusedSimpArgs false
set_option linter.unusedVariables false
open Go.RowKit Go.Proofs.YtacjnapgdikhbaaGreatDoorW.PrintWords Go.Proofs.YtacjnapgdikhbaaGreatDoorW.PrintLast Go.Proofs.YtacjnapgdikhbaaGreatDoorW.PrintMore
set_option maxHeartbeats 8000000
set_option maxRecDepth 100000
attribute [local go_sem] max2_int min2_int max_two min_two max_three min_three max_four min_four
section
namespace Go.Proofs.YtacjnapgdikhbaaGreatDoor.Q



def errW : Option Int → Value
  | none => .nilIface
  | some c => .iface 0 (.int .i64 c)
theorem errW_none : errW none = .nilIface := rfl
theorem errW_some (c : Int) : errW (some c) = .iface 0 (.int .i64 c) := rfl
theorem cz {w : World} {g T : Nat} {cs : Array Value} (h : w.heap[g]? = some (.cells cs T (0, 0))) (i : Nat) (v : Value) (e : cs[i]? = some v := by rfl) : w.cell? ⟨g, i, none⟩ = some v := (blk_cell h i).trans e
theorem dr {p : Prop} (h : p := by repeat (first | exact Drawn0.refl _ | apply Drawn0.step)) : p := h
theorem ab {p q : Prop} (h : q) (k : ¬ q := by simp) : p := absurd h k
theorem kf {p : Prop} (h : p := by kernel_rfl) : p := h
theorem rf {p : Prop} (h : p := by first | rfl | (simp [bneNil]; done) | (simp [errW_none, errW_some] <;> rfl) | (simp [*, errW_none, errW_some] <;> rfl)) : p := h

theorem info5 : (Tryz.prog.info? 5).map (fun i => (i.zero, i.size, i.bytes)) = some (some (.int .u8 0), 1, 1) := by kernel_rfl
theorem info9 : (Tryz.prog.info? 9).map (fun i => (i.zero, i.size, i.bytes)) = some (some (.string ⟨#[]⟩), 1, 16) := by kernel_rfl
theorem info46 : (Tryz.prog.info? 46).map (fun i => (i.zero, i.size, i.bytes)) = some (some (.agg #[(.string ⟨#[]⟩), (.string ⟨#[]⟩)]), 2, 32) := by kernel_rfl
theorem info48 : (Tryz.prog.info? 48).map (fun i => (i.zero, i.size, i.bytes)) = some (some (.agg #[(.string ⟨#[]⟩), (.string ⟨#[]⟩), (.int .i64 0), (.string ⟨#[]⟩)]), 4, 56) := by kernel_rfl
theorem info50 : (Tryz.prog.info? 50).map (fun i => (i.zero, i.size, i.bytes)) = some (some (.agg #[(.string ⟨#[]⟩), (.string ⟨#[]⟩)]), 2, 32) := by kernel_rfl
theorem info52 : (Tryz.prog.info? 52).map (fun i => (i.zero, i.size, i.bytes)) = some (some (.agg #[(.string ⟨#[]⟩), (.string ⟨#[]⟩), (.int .i64 0), (.string ⟨#[]⟩)]), 4, 56) := by kernel_rfl
theorem info72 : (Tryz.prog.info? 72).map (fun i => (i.zero, i.size, i.bytes)) = some (some (.agg #[(.string ⟨#[]⟩), (.string ⟨#[]⟩), (.string ⟨#[]⟩)]), 3, 48) := by kernel_rfl
theorem info79 : (Tryz.prog.info? 79).map (fun i => (i.zero, i.size, i.bytes)) = some (some (.agg #[(.string ⟨#[]⟩), (.string ⟨#[]⟩), (.string ⟨#[]⟩)]), 3, 48) := by kernel_rfl
-- the values' own types
/-! #### struct type 72 -/
structure S72 where
  f0 : ByteArray
  f1 : ByteArray
  f2 : ByteArray
def z72 : S72 := ⟨(⟨#[]⟩ : ByteArray), (⟨#[]⟩ : ByteArray), (⟨#[]⟩ : ByteArray)⟩
def k72 : Kd S72 := Kd.iso (Kd.pair Kd.string (Kd.pair Kd.string Kd.string)) (fun x : S72 => (x.f0, x.f1, x.f2))
theorem k72_open {w : World} {x : S72} {cs : List Value} (h : k72.K w x cs) : cs = [.string x.f0, .string x.f1, .string x.f2] := by
  obtain ⟨_, _, rfl, rfl, ⟨_, _, rfl, rfl, rfl⟩⟩ := h
  exact rfl
theorem k72_openM {w : World} {base : Nat} {ok : Nat → Prop} {x : S72} {cs : List Value} (h : k72.M w base ok x cs) : cs = [.string x.f0, .string x.f1, .string x.f2] := by
  obtain ⟨_, _, rfl, rfl, ⟨_, _, rfl, rfl, rfl⟩⟩ := h
  exact rfl
theorem k72_mk (w : World) (x : S72)  : k72.K w x [.string x.f0, .string x.f1, .string x.f2] := ⟨[.string x.f0], [.string x.f1, .string x.f2], rfl, rfl, ⟨[.string x.f1], [.string x.f2], rfl, rfl, rfl⟩⟩
theorem k72_mkM (w : World) (base : Nat) (ok : Nat → Prop) (x : S72)  : k72.M w base ok x [.string x.f0, .string x.f1, .string x.f2] := ⟨[.string x.f0], [.string x.f1, .string x.f2], rfl, rfl, ⟨[.string x.f1], [.string x.f2], rfl, rfl, rfl⟩⟩
theorem k72_mkF (W : World) (ok : Nat → Prop) (x : S72) : Kd.FK k72 W ok x [.string x.f0, .string x.f1, .string x.f2] := fun W2 _ => k72_mk W2 x
def rd_T72 (xs : List S72) (i : Int) : S72 := xs.getD i.toNat z72
theorem at_T72 {w : World} {A : Option Addr} {n : Nat} {xs : List S72} (h : Kd.C k72 w A n xs) (i : Int) (h0 : 0 ≤ i) (h1 : i < n) : ∃ ad , A = some ad ∧ w.cell? (ad.add (i.toNat * 3)) = some (.string (rd_T72 xs i).f0) ∧ w.cell? ⟨(ad.add (i.toNat * 3)).block, (ad.add (i.toNat * 3)).off + 1, none⟩ = some (.string (rd_T72 xs i).f1) ∧ w.cell? ⟨(ad.add (i.toNat * 3)).block, (ad.add (i.toNat * 3)).off + 2, none⟩ = some (.string (rd_T72 xs i).f2) := by
  obtain ⟨ad, c, e, _, hK, hc0⟩ := Kd.C_get h z72 i h0 h1
  have hc : ∀ j u, c[j]? = some u → w.cell? (ad.add (i.toNat * 3 + j)) = some u := hc0
  obtain rfl := k72_open hK
  exact ⟨ad, e, hc 0 _ rfl, by rw [← add_field _ _ 1 (by omega)]; exact hc 1 _ rfl, by rw [← add_field _ _ 2 (by omega)]; exact hc 2 _ rfl⟩

/-! #### struct type 50 -/
structure S50 where
  f0 : ByteArray
  f1 : ByteArray
def z50 : S50 := ⟨(⟨#[]⟩ : ByteArray), (⟨#[]⟩ : ByteArray)⟩
def k50 : Kd S50 := Kd.iso (Kd.pair Kd.string Kd.string) (fun x : S50 => (x.f0, x.f1))
theorem k50_open {w : World} {x : S50} {cs : List Value} (h : k50.K w x cs) : cs = [.string x.f0, .string x.f1] := by
  obtain ⟨_, _, rfl, rfl, rfl⟩ := h
  exact rfl
theorem k50_openM {w : World} {base : Nat} {ok : Nat → Prop} {x : S50} {cs : List Value} (h : k50.M w base ok x cs) : cs = [.string x.f0, .string x.f1] := by
  obtain ⟨_, _, rfl, rfl, rfl⟩ := h
  exact rfl
theorem k50_mk (w : World) (x : S50)  : k50.K w x [.string x.f0, .string x.f1] := ⟨[.string x.f0], [.string x.f1], rfl, rfl, rfl⟩
theorem k50_mkM (w : World) (base : Nat) (ok : Nat → Prop) (x : S50)  : k50.M w base ok x [.string x.f0, .string x.f1] := ⟨[.string x.f0], [.string x.f1], rfl, rfl, rfl⟩
theorem k50_mkF (W : World) (ok : Nat → Prop) (x : S50) : Kd.FK k50 W ok x [.string x.f0, .string x.f1] := fun W2 _ => k50_mk W2 x
def rd_T50 (xs : List S50) (i : Int) : S50 := xs.getD i.toNat z50
theorem at_T50 {w : World} {A : Option Addr} {n : Nat} {xs : List S50} (h : Kd.C k50 w A n xs) (i : Int) (h0 : 0 ≤ i) (h1 : i < n) : ∃ ad , A = some ad ∧ w.cell? (ad.add (i.toNat * 2)) = some (.string (rd_T50 xs i).f0) ∧ w.cell? ⟨(ad.add (i.toNat * 2)).block, (ad.add (i.toNat * 2)).off + 1, none⟩ = some (.string (rd_T50 xs i).f1) := by
  obtain ⟨ad, c, e, _, hK, hc0⟩ := Kd.C_get h z50 i h0 h1
  have hc : ∀ j u, c[j]? = some u → w.cell? (ad.add (i.toNat * 2 + j)) = some u := hc0
  obtain rfl := k50_open hK
  exact ⟨ad, e, hc 0 _ rfl, by rw [← add_field _ _ 1 (by omega)]; exact hc 1 _ rfl⟩

/-! #### struct type 79 -/
structure S79 where
  f0 : ByteArray
  f1 : ByteArray
  f2 : ByteArray
def z79 : S79 := ⟨(⟨#[]⟩ : ByteArray), (⟨#[]⟩ : ByteArray), (⟨#[]⟩ : ByteArray)⟩
def k79 : Kd S79 := Kd.iso (Kd.pair Kd.string (Kd.pair Kd.string Kd.string)) (fun x : S79 => (x.f0, x.f1, x.f2))
theorem k79_open {w : World} {x : S79} {cs : List Value} (h : k79.K w x cs) : cs = [.string x.f0, .string x.f1, .string x.f2] := by
  obtain ⟨_, _, rfl, rfl, ⟨_, _, rfl, rfl, rfl⟩⟩ := h
  exact rfl
theorem k79_openM {w : World} {base : Nat} {ok : Nat → Prop} {x : S79} {cs : List Value} (h : k79.M w base ok x cs) : cs = [.string x.f0, .string x.f1, .string x.f2] := by
  obtain ⟨_, _, rfl, rfl, ⟨_, _, rfl, rfl, rfl⟩⟩ := h
  exact rfl
theorem k79_mk (w : World) (x : S79)  : k79.K w x [.string x.f0, .string x.f1, .string x.f2] := ⟨[.string x.f0], [.string x.f1, .string x.f2], rfl, rfl, ⟨[.string x.f1], [.string x.f2], rfl, rfl, rfl⟩⟩
theorem k79_mkM (w : World) (base : Nat) (ok : Nat → Prop) (x : S79)  : k79.M w base ok x [.string x.f0, .string x.f1, .string x.f2] := ⟨[.string x.f0], [.string x.f1, .string x.f2], rfl, rfl, ⟨[.string x.f1], [.string x.f2], rfl, rfl, rfl⟩⟩
theorem k79_mkF (W : World) (ok : Nat → Prop) (x : S79) : Kd.FK k79 W ok x [.string x.f0, .string x.f1, .string x.f2] := fun W2 _ => k79_mk W2 x
def rd_T79 (xs : List S79) (i : Int) : S79 := xs.getD i.toNat z79
theorem at_T79 {w : World} {A : Option Addr} {n : Nat} {xs : List S79} (h : Kd.C k79 w A n xs) (i : Int) (h0 : 0 ≤ i) (h1 : i < n) : ∃ ad , A = some ad ∧ w.cell? (ad.add (i.toNat * 3)) = some (.string (rd_T79 xs i).f0) ∧ w.cell? ⟨(ad.add (i.toNat * 3)).block, (ad.add (i.toNat * 3)).off + 1, none⟩ = some (.string (rd_T79 xs i).f1) ∧ w.cell? ⟨(ad.add (i.toNat * 3)).block, (ad.add (i.toNat * 3)).off + 2, none⟩ = some (.string (rd_T79 xs i).f2) := by
  obtain ⟨ad, c, e, _, hK, hc0⟩ := Kd.C_get h z79 i h0 h1
  have hc : ∀ j u, c[j]? = some u → w.cell? (ad.add (i.toNat * 3 + j)) = some u := hc0
  obtain rfl := k79_open hK
  exact ⟨ad, e, hc 0 _ rfl, by rw [← add_field _ _ 1 (by omega)]; exact hc 1 _ rfl, by rw [← add_field _ _ 2 (by omega)]; exact hc 2 _ rfl⟩

/-! #### struct type 52 -/
structure S52 where
  f0 : S50
  f1 : Int
  f2 : ByteArray
def z52 : S52 := ⟨z50, (0 : Int), (⟨#[]⟩ : ByteArray)⟩
def k52 : Kd S52 := Kd.iso (Kd.pair k50 (Kd.pair (Kd.int .i64) Kd.string)) (fun x : S52 => (x.f0, x.f1, x.f2))
theorem k52_open {w : World} {x : S52} {cs : List Value} (h : k52.K w x cs) : cs = [.string x.f0.f0, .string x.f0.f1, .int .i64 x.f1, .string x.f2] := by
  obtain ⟨_, _, rfl, s0, ⟨_, _, rfl, rfl, rfl⟩⟩ := h
  obtain rfl := k50_open s0
  exact rfl
theorem k52_openM {w : World} {base : Nat} {ok : Nat → Prop} {x : S52} {cs : List Value} (h : k52.M w base ok x cs) : cs = [.string x.f0.f0, .string x.f0.f1, .int .i64 x.f1, .string x.f2] := by
  obtain ⟨_, _, rfl, s0, ⟨_, _, rfl, rfl, rfl⟩⟩ := h
  obtain rfl := k50_openM s0
  exact rfl
theorem k52_mk (w : World) (x : S52)  : k52.K w x [.string x.f0.f0, .string x.f0.f1, .int .i64 x.f1, .string x.f2] := ⟨[.string x.f0.f0, .string x.f0.f1], [.int .i64 x.f1, .string x.f2], rfl, (k50_mk w x.f0 ), ⟨[.int .i64 x.f1], [.string x.f2], rfl, rfl, rfl⟩⟩
theorem k52_mkM (w : World) (base : Nat) (ok : Nat → Prop) (x : S52)  : k52.M w base ok x [.string x.f0.f0, .string x.f0.f1, .int .i64 x.f1, .string x.f2] := ⟨[.string x.f0.f0, .string x.f0.f1], [.int .i64 x.f1, .string x.f2], rfl, (k50_mkM w base ok x.f0 ), ⟨[.int .i64 x.f1], [.string x.f2], rfl, rfl, rfl⟩⟩
theorem k52_mkF (W : World) (ok : Nat → Prop) (x : S52) : Kd.FK k52 W ok x [.string x.f0.f0, .string x.f0.f1, .int .i64 x.f1, .string x.f2] := fun W2 _ => k52_mk W2 x
def rd_T52 (xs : List S52) (i : Int) : S52 := xs.getD i.toNat z52
theorem at_T52 {w : World} {A : Option Addr} {n : Nat} {xs : List S52} (h : Kd.C k52 w A n xs) (i : Int) (h0 : 0 ≤ i) (h1 : i < n) : ∃ ad , A = some ad ∧ w.cell? (ad.add (i.toNat * 4)) = some (.string (rd_T52 xs i).f0.f0) ∧ w.cell? ⟨(ad.add (i.toNat * 4)).block, (ad.add (i.toNat * 4)).off + 1, none⟩ = some (.string (rd_T52 xs i).f0.f1) ∧ w.cell? ⟨(ad.add (i.toNat * 4)).block, (ad.add (i.toNat * 4)).off + 2, none⟩ = some (.int .i64 (rd_T52 xs i).f1) ∧ w.cell? ⟨(ad.add (i.toNat * 4)).block, (ad.add (i.toNat * 4)).off + 3, none⟩ = some (.string (rd_T52 xs i).f2) := by
  obtain ⟨ad, c, e, _, hK, hc0⟩ := Kd.C_get h z52 i h0 h1
  have hc : ∀ j u, c[j]? = some u → w.cell? (ad.add (i.toNat * 4 + j)) = some u := hc0
  obtain rfl := k52_open hK
  exact ⟨ad, e, hc 0 _ rfl, by rw [← add_field _ _ 1 (by omega)]; exact hc 1 _ rfl, by rw [← add_field _ _ 2 (by omega)]; exact hc 2 _ rfl, by rw [← add_field _ _ 3 (by omega)]; exact hc 3 _ rfl⟩

/-! #### struct type 46 -/
structure S46 where
  f0 : ByteArray
  f1 : ByteArray
def z46 : S46 := ⟨(⟨#[]⟩ : ByteArray), (⟨#[]⟩ : ByteArray)⟩
def k46 : Kd S46 := Kd.iso (Kd.pair Kd.string Kd.string) (fun x : S46 => (x.f0, x.f1))
theorem k46_open {w : World} {x : S46} {cs : List Value} (h : k46.K w x cs) : cs = [.string x.f0, .string x.f1] := by
  obtain ⟨_, _, rfl, rfl, rfl⟩ := h
  exact rfl
theorem k46_openM {w : World} {base : Nat} {ok : Nat → Prop} {x : S46} {cs : List Value} (h : k46.M w base ok x cs) : cs = [.string x.f0, .string x.f1] := by
  obtain ⟨_, _, rfl, rfl, rfl⟩ := h
  exact rfl
theorem k46_mk (w : World) (x : S46)  : k46.K w x [.string x.f0, .string x.f1] := ⟨[.string x.f0], [.string x.f1], rfl, rfl, rfl⟩
theorem k46_mkM (w : World) (base : Nat) (ok : Nat → Prop) (x : S46)  : k46.M w base ok x [.string x.f0, .string x.f1] := ⟨[.string x.f0], [.string x.f1], rfl, rfl, rfl⟩
theorem k46_mkF (W : World) (ok : Nat → Prop) (x : S46) : Kd.FK k46 W ok x [.string x.f0, .string x.f1] := fun W2 _ => k46_mk W2 x
def rd_T46 (xs : List S46) (i : Int) : S46 := xs.getD i.toNat z46
theorem at_T46 {w : World} {A : Option Addr} {n : Nat} {xs : List S46} (h : Kd.C k46 w A n xs) (i : Int) (h0 : 0 ≤ i) (h1 : i < n) : ∃ ad , A = some ad ∧ w.cell? (ad.add (i.toNat * 2)) = some (.string (rd_T46 xs i).f0) ∧ w.cell? ⟨(ad.add (i.toNat * 2)).block, (ad.add (i.toNat * 2)).off + 1, none⟩ = some (.string (rd_T46 xs i).f1) := by
  obtain ⟨ad, c, e, _, hK, hc0⟩ := Kd.C_get h z46 i h0 h1
  have hc : ∀ j u, c[j]? = some u → w.cell? (ad.add (i.toNat * 2 + j)) = some u := hc0
  obtain rfl := k46_open hK
  exact ⟨ad, e, hc 0 _ rfl, by rw [← add_field _ _ 1 (by omega)]; exact hc 1 _ rfl⟩

/-! #### struct type 48 -/
structure S48 where
  f0 : S46
  f1 : Int
  f2 : ByteArray
def z48 : S48 := ⟨z46, (0 : Int), (⟨#[]⟩ : ByteArray)⟩
def k48 : Kd S48 := Kd.iso (Kd.pair k46 (Kd.pair (Kd.int .i64) Kd.string)) (fun x : S48 => (x.f0, x.f1, x.f2))
theorem k48_open {w : World} {x : S48} {cs : List Value} (h : k48.K w x cs) : cs = [.string x.f0.f0, .string x.f0.f1, .int .i64 x.f1, .string x.f2] := by
  obtain ⟨_, _, rfl, s0, ⟨_, _, rfl, rfl, rfl⟩⟩ := h
  obtain rfl := k46_open s0
  exact rfl
theorem k48_openM {w : World} {base : Nat} {ok : Nat → Prop} {x : S48} {cs : List Value} (h : k48.M w base ok x cs) : cs = [.string x.f0.f0, .string x.f0.f1, .int .i64 x.f1, .string x.f2] := by
  obtain ⟨_, _, rfl, s0, ⟨_, _, rfl, rfl, rfl⟩⟩ := h
  obtain rfl := k46_openM s0
  exact rfl
theorem k48_mk (w : World) (x : S48)  : k48.K w x [.string x.f0.f0, .string x.f0.f1, .int .i64 x.f1, .string x.f2] := ⟨[.string x.f0.f0, .string x.f0.f1], [.int .i64 x.f1, .string x.f2], rfl, (k46_mk w x.f0 ), ⟨[.int .i64 x.f1], [.string x.f2], rfl, rfl, rfl⟩⟩
theorem k48_mkM (w : World) (base : Nat) (ok : Nat → Prop) (x : S48)  : k48.M w base ok x [.string x.f0.f0, .string x.f0.f1, .int .i64 x.f1, .string x.f2] := ⟨[.string x.f0.f0, .string x.f0.f1], [.int .i64 x.f1, .string x.f2], rfl, (k46_mkM w base ok x.f0 ), ⟨[.int .i64 x.f1], [.string x.f2], rfl, rfl, rfl⟩⟩
theorem k48_mkF (W : World) (ok : Nat → Prop) (x : S48) : Kd.FK k48 W ok x [.string x.f0.f0, .string x.f0.f1, .int .i64 x.f1, .string x.f2] := fun W2 _ => k48_mk W2 x
def rd_T48 (xs : List S48) (i : Int) : S48 := xs.getD i.toNat z48
theorem at_T48 {w : World} {A : Option Addr} {n : Nat} {xs : List S48} (h : Kd.C k48 w A n xs) (i : Int) (h0 : 0 ≤ i) (h1 : i < n) : ∃ ad , A = some ad ∧ w.cell? (ad.add (i.toNat * 4)) = some (.string (rd_T48 xs i).f0.f0) ∧ w.cell? ⟨(ad.add (i.toNat * 4)).block, (ad.add (i.toNat * 4)).off + 1, none⟩ = some (.string (rd_T48 xs i).f0.f1) ∧ w.cell? ⟨(ad.add (i.toNat * 4)).block, (ad.add (i.toNat * 4)).off + 2, none⟩ = some (.int .i64 (rd_T48 xs i).f1) ∧ w.cell? ⟨(ad.add (i.toNat * 4)).block, (ad.add (i.toNat * 4)).off + 3, none⟩ = some (.string (rd_T48 xs i).f2) := by
  obtain ⟨ad, c, e, _, hK, hc0⟩ := Kd.C_get h z48 i h0 h1
  have hc : ∀ j u, c[j]? = some u → w.cell? (ad.add (i.toNat * 4 + j)) = some u := hc0
  obtain rfl := k48_open hK
  exact ⟨ad, e, hc 0 _ rfl, by rw [← add_field _ _ 1 (by omega)]; exact hc 1 _ rfl, by rw [← add_field _ _ 2 (by omega)]; exact hc 2 _ rfl, by rw [← add_field _ _ 3 (by omega)]; exact hc 3 _ rfl⟩

end Go.Proofs.YtacjnapgdikhbaaGreatDoor.Q
end
section
namespace Go.Proofs.YtacjnapgdikhbaaGreatDoor.Q

theorem eqA46 (d : Nat) (w : World) (x0 y0 : ByteArray) (x1 y1 : ByteArray) :
    (Op.equalIn (d + 2) 46 (.agg #[.string x0, .string x1]) (.agg #[.string y0, .string y1])).run Tryz.prog w = .ok (x0.toList == y0.toList && (x1.toList == y1.toList)) w := by
  refine eqA_of Tryz.underlying46 kf ?_
  refine eqf_cons (by rfl) (by go_simp; rfl) (by go_simp; rfl) (by go_simp) ?_
  exact eqf_last (by rfl) (by go_simp; rfl) (by go_simp; rfl) (by go_simp)
end Go.Proofs.YtacjnapgdikhbaaGreatDoor.Q
end
section
namespace Go.Proofs.YtacjnapgdikhbaaGreatDoor.Q

theorem eqA48 (d : Nat) (w : World) (x0 y0 : ByteArray) (x1 y1 : ByteArray) (x2 y2 : Int) (x3 y3 : ByteArray) :
    (Op.equalIn (d + 3) 48 (.agg #[.string x0, .string x1, .int .i64 x2, .string x3]) (.agg #[.string y0, .string y1, .int .i64 y2, .string y3])).run Tryz.prog w = .ok ((x0.toList == y0.toList && (x1.toList == y1.toList)) && (x2 == y2 && (x3.toList == y3.toList))) w := by
  refine eqA_of Tryz.underlying48 kf ?_
  refine eqf_cons (by rfl) (by go_simp) (by go_simp) (eqA46 (d + 0) w _ _ _ _) ?_
  refine eqf_cons (by rfl) (by go_simp; rfl) (by go_simp; rfl) (by go_simp) ?_
  exact eqf_last (by rfl) (by go_simp; rfl) (by go_simp; rfl) (by go_simp)
end Go.Proofs.YtacjnapgdikhbaaGreatDoor.Q
end
section
namespace Go.Proofs.YtacjnapgdikhbaaGreatDoor.Q

/-! ### postriderlaw18_Few: function 8 -/
def postriderlaw18_Few.l0 : Nat → Int → List (S72) → ByteArray → Bool → List (S72) → ByteArray → Bool → Option ((List (S72)) × ByteArray × Bool)
 | 0, _, _, _, _, _, _, _ => none
 | k + 1, x4, x102000, x102001, x102002, x104000, x104001, x104002 => if x4 < (x102000.length : Int) then (if x4 < 15 then (if 0 ≤ x4 then (if 0 ≤ (mn (((rd_T72 x102000 x4).f0).size : Int) 600) then (if (mn (((rd_T72 x102000 x4).f0).size : Int) 600) ≤ (((rd_T72 x102000 x4).f0).size : Int) then (if 0 ≤ (mn (((rd_T72 x102000 x4).f1).size : Int) 600) then (if (mn (((rd_T72 x102000 x4).f1).size : Int) 600) ≤ (((rd_T72 x102000 x4).f1).size : Int) then (if 0 ≤ (mn (((rd_T72 x102000 x4).f2).size : Int) 600) then (if (mn (((rd_T72 x102000 x4).f2).size : Int) 600) ≤ (((rd_T72 x102000 x4).f2).size : Int) then (if x104000.length < 2932031007402 then (postriderlaw18_Few.l0 k (wrap64 (x4 + 1)) x102000 x102001 x102002 (x104000 ++ [(⟨((rd_T72 x102000 x4).f0).extract 0 ((mn (((rd_T72 x102000 x4).f0).size : Int) 600) : Int).toNat, ((rd_T72 x102000 x4).f1).extract 0 ((mn (((rd_T72 x102000 x4).f1).size : Int) 600) : Int).toNat, ((rd_T72 x102000 x4).f2).extract 0 ((mn (((rd_T72 x102000 x4).f2).size : Int) 600) : Int).toNat⟩ : S72)]) x104001 x104002) else (none)) else (none)) else (none)) else (none)) else (none)) else (none)) else (none)) else (none)) else (some (x104000, x104001, x104002))) else (some (x104000, x104001, x104002))
def postriderlaw18_Few.f (k : Nat) (l0_0 : List (S72)) (a0_1 : ByteArray) (a0_2 : Bool) : Option ((List (S72)) × ByteArray × Bool) := if 0 ≤ (mn (a0_1.size : Int) 1000) then (if (mn (a0_1.size : Int) 1000) ≤ (a0_1.size : Int) then (postriderlaw18_Few.l0 k 0 l0_0 a0_1 a0_2 ([] : List (S72)) (a0_1.extract 0 ((mn (a0_1.size : Int) 1000) : Int).toNat) a0_2) else (none)) else (none)
theorem postriderlaw18_Few.mono_l : ∀ k, (∀ y0 y1 y2 y3 y4 y5 y6, LeO (postriderlaw18_Few.l0 k y0 y1 y2 y3 y4 y5 y6) (postriderlaw18_Few.l0 (k + 1) y0 y1 y2 y3 y4 y5 y6))
 | 0 => fun _ _ _ _ _ _ _ r h => by simp [postriderlaw18_Few.l0] at h
 | k + 1 => by
  have ih0 := postriderlaw18_Few.mono_l k
  ·intro y0 y1 y2 y3 y4 y5 y6
   unfold postriderlaw18_Few.l0
   repeat' first
   | (with_reducible first | exact ih0 _ _ _ _ _ _ _ | exact LeO.refl _ | exact LeO.none _ | refine LeO.ite ?_ ?_ | refine LeO.bind ?_ (fun _ => ?_))
theorem postriderlaw18_Few.mono : ∀ a0 a1 a2 k, LeO (postriderlaw18_Few.f k a0 a1 a2) (postriderlaw18_Few.f (k + 1) a0 a1 a2) := by
 intro a0 a1 a2 k
 have ih0 := postriderlaw18_Few.mono_l k
 unfold postriderlaw18_Few.f
 repeat' first
   | (with_reducible first | exact ih0 _ _ _ _ _ _ _ | exact LeO.refl _ | exact LeO.none _ | refine LeO.ite ?_ ?_ | refine LeO.bind ?_ (fun _ => ?_))
def postriderlaw18_Few.T1 : Bool × List (List Nat × List Nat) := (true, [([], []), ([0], [0]), ([], []), ([2], [2]), ([3], [3]), ([4], [4]), ([1, 5], [1, 5]), ([], []), ([7], [7]), ([6, 8], [6, 8]), ([], []), ([10, 9, 0, 1, 2, 3, 4, 5, 6, 7, 8, 9, 10], [9, 10])])
def postriderlaw18_Few.B1 : List Nat := [0, 1, 0, 4, 12, 28, 63, 0, 128, 511, 0, 2047]
theorem postriderlaw18_Few.tab1 : rtab .any (opsOf Tryz.f8 1) = postriderlaw18_Few.T1 := by kernel_rfl
theorem postriderlaw18_Few.bits1 : waitsOk postriderlaw18_Few.T1.2 postriderlaw18_Few.B1 = true := by kernel_rfl
def postriderlaw18_Few.T6 : Bool × List (List Nat × List Nat) := (true, [([], []), ([0], [0]), ([], []), ([2], [2]), ([], []), ([4], [4]), ([5], [5]), ([6], [6]), ([3, 7], [3, 7]), ([], []), ([9], [9]), ([], []), ([11], [11]), ([12], [12]), ([13], [13]), ([10, 14], [10, 14]), ([], []), ([16], [16]), ([], []), ([18], [18]), ([19], [19]), ([20], [20]), ([17, 21], [17, 21]), ([8, 15, 22], [8, 15, 22]), ([23], [23]), ([1, 24], [1, 24]), ([0, 1, 2, 3, 4, 5, 6, 7, 8, 9, 10, 11, 12, 13, 14, 15, 16, 17, 18, 19, 20, 21, 22, 23, 24, 25], []), ([26, 25, 25, 0, 1, 2, 3, 4, 5, 6, 7, 8, 9, 10, 11, 12, 13, 14, 15, 16, 17, 18, 19, 20, 21, 22, 23, 24, 25], [25, 26])])
def postriderlaw18_Few.B6 : List Nat := [0, 1, 0, 4, 0, 16, 48, 112, 252, 0, 512, 0, 2048, 6144, 14336, 32256, 0, 65536, 0, 262144, 786432, 1835008, 4128768, 8388604, 16777212, 33554431, 67108863, 134217727]
theorem postriderlaw18_Few.tab6 : rtab .any (opsOf Tryz.f8 6) = postriderlaw18_Few.T6 := by kernel_rfl
theorem postriderlaw18_Few.bits6 : waitsOk postriderlaw18_Few.T6.2 postriderlaw18_Few.B6 = true := by kernel_rfl
theorem postriderlaw18_Few.calls (k : Nat) (A0_0 : Option Addr) (c0_0 : Nat) (l0_0 : List (S72)) (a0_1 : ByteArray) (a0_2 : Bool) (r1 : List (S72)) (r2 : ByteArray) (r3 : Bool) (w : World) (hr0_0 : Kd.C k72 w A0_0 l0_0.length l0_0) (hc0_0 : l0_0.length ≤ c0_0) (h : postriderlaw18_Few.f k l0_0 a0_1 a0_2 = some (r1, r2, r3)) :
  Calls Tryz.prog 8 #[.agg #[.slice A0_0 l0_0.length c0_0, .string a0_1, .bool a0_2]] w fun e w' => ∃ v0_ : Value, e = .returned (.agg #[v0_, .string r2, .bool r3]) ∧ Kd.R k72 72 w' w.heap.size (fun _ => True) v0_ r1 ∧ Below w.heap.size w w' := by
 have hu24 := Tryz.underlying24
 have hu72 := Tryz.underlying72
 have HR0_0 := Aside0.mk hr0_0
 have HC0_0 := Aside0.mk hc0_0
 clear hr0_0 hc0_0
 have HB := Aside0.mk (Below.refl w.heap.size w)
 have H : (if 0 ≤ (mn (a0_1.size : Int) 1000) then (if (mn (a0_1.size : Int) 1000) ≤ (a0_1.size : Int) then (postriderlaw18_Few.l0 k 0 l0_0 a0_1 a0_2 ([] : List (S72)) (a0_1.extract 0 ((mn (a0_1.size : Int) 1000) : Int).toNat) a0_2) else (none)) else (none)) = some (r1, r2, r3) := h
 clear h
 obtain ⟨ji2, hji2⟩ : ∃ j_ : Int, (mn (a0_1.size : Int) 1000) = j_ := ⟨_, rfl⟩
 replace H : (if 0 ≤ (ji2) then (if (ji2) ≤ (a0_1.size : Int) then (postriderlaw18_Few.l0 k 0 l0_0 a0_1 a0_2 ([] : List (S72)) (a0_1.extract 0 ((ji2) : Int).toNat) a0_2) else (none)) else (none)) = some (r1, r2, r3) := by first | (rw [hji2] at H; exact H) | (simp only [hji2] at H ⊢; exact H)
 (try (have hji2h : ji2 ≤ 1000 := by (rw [← hji2]; unfold mn; (repeat' split) <;> omega)))
 (try (have hji2g : ji2 ≤ 64 := by omega))
 (try (have hji2l : 0 ≤ ji2 := by (rw [← hji2]; unfold mn; (repeat' split) <;> omega)))
 (try (have hji2m : 0 ≤ ji2 := by omega))
 have hji2_ : (if 1000 < (a0_1.size : Int) then 1000 else (a0_1.size : Int)) = ji2 := hji2
 by_cases c3 : 0 ≤ (ji2)
 rotate_left
 ·rw [if_neg c3] at H
  exact ab H
 rw [if_pos c3] at H
 have c3b0 := eq_true c3
 have c3b1 : decide (0 ≤ (ji2)) = true := decide_eq_true c3
 clear c3
 by_cases c4 : (ji2) ≤ (a0_1.size : Int)
 rotate_left
 ·rw [if_neg c4] at H
  exact ab H
 rw [if_pos c4] at H
 have c4b0 := eq_true c4
 have c4b1 : decide ((ji2) ≤ (a0_1.size : Int)) = true := decide_eq_true c4
 clear c4
 obtain ⟨js5, hjs5⟩ : ∃ j_ : ByteArray, (a0_1.extract 0 ((ji2) : Int).toNat) = j_ := ⟨_, rfl⟩
 replace H : (postriderlaw18_Few.l0 k 0 l0_0 a0_1 a0_2 ([] : List (S72)) js5 a0_2) = some (r1, r2, r3) := by first | (rw [hjs5] at H; exact H) | (simp only [hjs5] at H ⊢; exact H)
 have H' := Aside0.mk H
 clear H
 go_enter Tryz.func8, Tryz.ntmps8
 try go_wp2_with (first | ((with_reducible refine gate_dst (N := 1) rfl ?_); refine box_event ?hg (N := 1) ?hd (cs := #[.slice A0_0 l0_0.length c0_0, .string a0_1, .bool a0_2]) (t := 24) ?hr ?_; (case hd => rfl); (case hg => rfl); (case hr => first | (go_simp; done) | (go_simp; rfl)); intro gb101 hg w6 hbox hb; have BK101 := Aside0.mk (hbox); have GW101 := Aside0.mk (gz hg : w.heap.size ≤ gb101); have GE101 := Aside0.mk (gz hg : w.heap.size ≤ gb101); replace HB := Aside0.mk (below_step bl hb); clear hb hbox hg) | ((with_reducible refine gate_dst (N := 2) rfl ?_); refine box_event ?hg (N := 2) ?hd (cs := #[.slice none 0 0, .string (⟨#[]⟩ : ByteArray), .bool false]) (t := 24) ?hr ?_; (case hd => rfl); (case hg => rfl); (case hr => first | (go_simp; done) | (go_simp; rfl)); intro gb102 hg w7 hbox hb; have BK102 := Aside0.mk (hbox); have GW102 := Aside0.mk (gz hg : w.heap.size ≤ gb102); have GE102 := Aside0.mk (gz hg : w.heap.size ≤ gb102); replace HB := Aside0.mk (below_step bl hb); have NB101_102 := Aside0.mk (nl hg BK101.out : gb101 ≠ gb102); have NB102_101 := Aside0.mk (ng hg BK101.out : gb102 ≠ gb101); replace BK101 := Aside0.mk (kb BK101.out hb); clear hb hbox hg))
 replace BK101 := Aside0.mk (blk_drew BK101.out)
 replace BK102 := Aside0.mk (blk_drew BK102.out)
 replace HB := Aside0.mk (below_drew1 HB.out)
 refine start_ (n := 12) (S := fun w' => w'.cell? ⟨gb101, 0, none⟩ = some (.slice A0_0 l0_0.length c0_0) ∧ w'.cell? ⟨gb101, 1, none⟩ = some (.string a0_1) ∧ w'.cell? ⟨gb101, 2, none⟩ = some (.bool a0_2)) (ds := []) #[false, false, false, false, false, false, false, false, false, false, false, false] kf rfl rfl ⟨(blk_cell BK101.out 0).trans rfl, (blk_cell BK101.out 1).trans rfl, (blk_cell BK101.out 2).trans rfl⟩ (fun hHeld => ?_); refine with_tabW postriderlaw18_Few.tab1 postriderlaw18_Few.bits1 (fun HT_ HW_ => ?_)
 generalize w7.drew = w8 at BK101 BK102 HB hHeld ⊢
 refine pure_ (i := 0) (N := some 6) (v := ?_) (a' := ?_) #[true, false, false, false, false, false, false, false, false, false, false, false] rfl rfl (any_of HT_.out kf) (fun _ _ _ h => h) (Or.inl ⟨by rfl, ?_⟩) ?_ ?_
 rotate_left
 ·intro w'
  go_simp
  with_reducible rfl
 rotate_left
 ·simp only [Act.put, sA, sB, sC, i64_w, i32_w]
  rfl
 refine pure_ (i := 2) (N := some 8) (v := ?_) (a' := ?_) #[true, false, true, false, false, false, false, false, false, false, false, false] rfl rfl (any_of HT_.out kf) (fun _ _ _ h => h) (Or.inl ⟨by rfl, ?_⟩) ?_ ?_
 rotate_left
 ·intro w'
  go_simp
  with_reducible rfl
 rotate_left
 ·simp only [Act.put, sA, sB, sC, i64_w, i32_w]
  rfl
 refine pure_ (i := 7) (N := some 13) (v := ?_) (a' := ?_) #[true, false, true, false, false, false, false, true, false, false, false, false] rfl rfl (any_of HT_.out kf) (fun _ _ _ h => h) (Or.inl ⟨by rfl, ?_⟩) ?_ ?_
 rotate_left
 ·intro w'
  go_simp
  with_reducible rfl
 rotate_left
 ·simp only [Act.put, sA, sB, sC, i64_w, i32_w]
  rfl
 refine take_ (i := 1) (N := some 7) (v := ?_) (a' := ?_) #[true, true, true, false, false, false, false, true, false, false, false, false] rfl rfl (take_ofW HT_.out HW_.out kf) (fun _ _ _ h => h) (Or.inl ⟨by rfl, ?_⟩) hHeld ?_ ?_
 rotate_left
 ·rintro w' ⟨s0, s1, s2⟩
  go_simp
  with_reducible rfl
 rotate_left
 ·simp only [Act.put, sA, sB, sC, i64_w, i32_w]
  rfl
 refine take_ (i := 3) (N := some 9) (v := ?_) (a' := ?_) #[true, true, true, true, false, false, false, true, false, false, false, false] rfl rfl (take_ofW HT_.out HW_.out kf) (fun _ _ _ h => h) (Or.inl ⟨by rfl, ?_⟩) hHeld ?_ ?_
 rotate_left
 ·rintro w' ⟨s0, s1, s2⟩
  go_simp
  with_reducible rfl
 rotate_left
 ·simp only [Act.put, sA, sB, sC, i64_w, i32_w]
  rfl
 refine pure_ (i := 4) (N := some 10) (v := ?_) (a' := ?_) #[true, true, true, true, true, false, false, true, false, false, false, false] rfl rfl (any_of HT_.out kf) (fun _ _ _ h => h) (Or.inl ⟨by rfl, ?_⟩) ?_ ?_
 rotate_left
 ·intro w'
  go_simp
  with_reducible rfl
 rotate_left
 ·simp only [Act.put, sA, sB, sC, i64_w, i32_w]
  rfl
 refine pure_ (i := 5) (N := some 11) (v := ?_) (a' := ?_) #[true, true, true, true, true, true, false, true, false, false, false, false] rfl rfl (any_of HT_.out kf) (fun _ _ _ h => h) (Or.inl ⟨by rfl, ?_⟩) ?_ ?_
 rotate_left
 ·intro w'
  go_simp
  with_reducible rfl
 rotate_left
 ·simp only [Act.put, sA, sB, sC, i64_w, i32_w]
  rfl
 refine pure_ (i := 6) (N := some 12) (v := ?_) (a' := ?_) #[true, true, true, true, true, true, true, true, false, false, false, false] rfl rfl (any_of HT_.out kf) (fun _ _ _ h => h) (Or.inl ⟨by rfl, ?_⟩) ?_ ?_
 rotate_left
 ·intro w'
  go_simp
  with_reducible rfl
 rotate_left
 ·simp only [Act.put, sA, sB, sC, i64_w, i32_w]
  rfl
 refine take_ (i := 8) (N := some 14) (v := ?_) (a' := ?_) #[true, true, true, true, true, true, true, true, true, false, false, false] rfl rfl (take_ofW HT_.out HW_.out kf) (fun _ _ _ h => h) (Or.inl ⟨by rfl, ?_⟩) hHeld ?_ ?_
 rotate_left
 ·rintro w' ⟨s0, s1, s2⟩
  go_simp
  with_reducible rfl
 rotate_left
 ·simp only [Act.put, sA, sB, sC, i64_w, i32_w]
  rfl
 refine pure_ (i := 9) (N := some 15) (v := ?_) (a' := ?_) #[true, true, true, true, true, true, true, true, true, true, false, false] rfl rfl (any_of HT_.out kf) (fun _ _ _ h => h) (Or.inl ⟨by rfl, ?_⟩) ?_ ?_
 rotate_left
 ·intro w'
  go_simp
  with_reducible rfl
 rotate_left
 ·simp only [Act.put, sA, sB, sC, i64_w, i32_w]
  rfl
 refine one_ (i := 10) (N := some 3) #[true, true, true, true, true, true, true, true, true, true, true, false] rfl rfl (one_of HT_.out kf) (by decide) (fun K hK => ?_)
 refine box_step ?hg (N := 3) ?hd (cs := #[.slice none 0 0, .string (⟨#[]⟩ : ByteArray), .bool false]) (t := 24) ?hr ?_; (case hd => rfl); (case hg => rfl); (case hr => first | (go_simp; done) | (go_simp; rfl))
 intro gb103 hg w9 hbox hb
 have BK103 := Aside0.mk (hbox)
 have GW103 := Aside0.mk (gz hg : w.heap.size ≤ gb103)
 have GE103 := Aside0.mk (gz hg : w.heap.size ≤ gb103)
 replace HB := Aside0.mk (below_step bl hb)
 have NB101_103 := Aside0.mk (nl hg BK101.out : gb101 ≠ gb103)
 have NB103_101 := Aside0.mk (ng hg BK101.out : gb103 ≠ gb101)
 replace BK101 := Aside0.mk (kb BK101.out hb)
 have NB102_103 := Aside0.mk (nl hg BK102.out : gb102 ≠ gb103)
 have NB103_102 := Aside0.mk (ng hg BK102.out : gb103 ≠ gb102)
 replace BK102 := Aside0.mk (kb BK102.out hb)
 clear hb hbox hg
 refine hK.out _ _ ⟨(blk_cell BK101.out 0).trans rfl, (blk_cell BK101.out 1).trans rfl, (blk_cell BK101.out 2).trans rfl⟩ (fun hHeld => ?_)
 clear hK K
 refine norm_ (a' := ?_) ?_ ?_
 rotate_left
 ·show Act.put _ (some 3) _ = _
  simp only [Act.put, sA, sB, sC, i64_w, i32_w]
  rfl
 refine one_ (i := 11) (N := none) #[true, true, true, true, true, true, true, true, true, true, true, true] rfl rfl (one_of HT_.out kf) (by decide) (fun K hK => ?_)
 have hs10 : w9.cell? ⟨gb103, 0, none⟩ = some (.slice none 0 0) := (blk_cell BK103.out 0).trans rfl
 have hfs10 := blk_frozen BK103.out 0
 have hns10_0 := NB101_103.out
 have hns10_1 := NB102_103.out
 have hms10_0 := NB103_101.out
 have hms10_1 := NB103_102.out
 have hs11 : w9.cell? ⟨gb103, 1, none⟩ = some (.string (⟨#[]⟩ : ByteArray)) := (blk_cell BK103.out 1).trans rfl
 have hfs11 := blk_frozen BK103.out 1
 have hns11_0 := NB101_103.out
 have hns11_1 := NB102_103.out
 have hms11_0 := NB103_101.out
 have hms11_1 := NB103_102.out
 have hs12 : w9.cell? ⟨gb103, 2, none⟩ = some (.bool false) := (blk_cell BK103.out 2).trans rfl
 have hfs12 := blk_frozen BK103.out 2
 have hns12_0 := NB101_103.out
 have hns12_1 := NB102_103.out
 have hms12_0 := NB103_101.out
 have hms12_1 := NB103_102.out
 refine skip_ (w1 := ?_) (by rfl) rfl ?_ ?_
 rotate_left
 ·go_simp
  rfl
 refine hK.out _ _ ⟨((cell_far (p := ⟨gb103, _, none⟩) NB101_103.out _).trans (((cell_far (p := ⟨gb103, _, none⟩) NB101_103.out _).trans (((cell_far (p := ⟨gb103, _, none⟩) NB101_103.out _).trans (hHeld.1)))))), ((cell_far (p := ⟨gb103, _, none⟩) NB101_103.out _).trans (((cell_far (p := ⟨gb103, _, none⟩) NB101_103.out _).trans (((cell_far (p := ⟨gb103, _, none⟩) NB101_103.out _).trans (hHeld.2.1)))))), ((cell_far (p := ⟨gb103, _, none⟩) NB101_103.out _).trans (((cell_far (p := ⟨gb103, _, none⟩) NB101_103.out _).trans (((cell_far (p := ⟨gb103, _, none⟩) NB101_103.out _).trans (hHeld.2.2))))))⟩ (fun hHeld => ?_)
 clear hK K
 refine done_ (done_of HT_.out kf) ?_
 try go_wp2
 go_loopg [4] k (fun kq v4 w' => ∃ (x4_1 : Int) (x104000_1 : List (S72)) (u104000 : Value), v4 = .int .i64 x4_1 ∧ Aside0 (postriderlaw18_Few.l0 kq x4_1 l0_0 a0_1 a0_2 x104000_1 js5 a0_2 = some (r1, r2, r3)) ∧ Aside0 (kq ≤ k) ∧ Aside0 (Kd.R k72 72 w' w.heap.size (fun _ => True) u104000 x104000_1) ∧ Aside0 (w'.heap[gb101]? = some (.cells #[(.slice A0_0 l0_0.length c0_0), .string a0_1, .bool a0_2] 24 (0, 0))) ∧ Aside0 (w'.heap[gb102]? = some (.cells #[(.slice none 0 0), .string (⟨#[]⟩ : ByteArray), .bool false] 24 (0, 0))) ∧ Aside0 (w'.heap[gb103]? = some (.cells #[u104000, .string js5, .bool a0_2] 24 (0, 0))) ∧ Aside0 (Below w.heap.size w w'))
 case atStart => exact ⟨(0), (([] : List (S72))), (.slice none 0 0), rs, H', ⟨Nat.le_refl _⟩, ⟨by first | exact Kd.R_nil _ _ _ _ _ | exact Kd.N_nil _ _ _ _ _ | exact Kd.V_nil _ _ _ _ _ | exact Kd.Q_nil _ _ _ _ _ | exact Kd.S_nil _ _ _ _ _⟩, ⟨bk BK101.out⟩, ⟨bk BK102.out⟩, ⟨by (with_reducible repeat (first | refine blk_drewN ?_ _ | refine blk_drew ?_ | refine blk_alloc ?_ _)); refine blk_put (cs := #[.slice none 0 0, .string js5, .bool false]) ?_ 2 _ rfl; (with_reducible repeat (first | refine blk_drewN ?_ _ | refine blk_drew ?_ | refine blk_alloc ?_ _)); refine blk_put (cs := #[.slice none 0 0, .string (⟨#[]⟩ : ByteArray), .bool false]) ?_ 1 _ rfl; (with_reducible repeat (first | refine blk_drewN ?_ _ | refine blk_drew ?_ | refine blk_alloc ?_ _)); refine blk_put (cs := #[.slice none 0 0, .string (⟨#[]⟩ : ByteArray), .bool false]) ?_ 0 _ rfl; (with_reducible repeat (first | refine blk_drewN ?_ _ | refine blk_drew ?_ | refine blk_alloc ?_ _)); exact BK103.out⟩, ⟨bl⟩⟩
 case round =>
  clear H'
  try clear p2
  try clear c3
  try clear c3b0
  try clear c3b1
  try clear c4
  try clear c4b0
  try clear c4b1
  try clear c8
  obtain ⟨x4_1, x104000_1, u104000, rfl, HA, HK1, HO_104000, BK101, BK102, BK103, HB⟩ := hrel
  cases gk with
  | zero => exact absurd HA.out (by simp [postriderlaw18_Few.l0])
  | succ k1 =>
   have H := HA.out
   clear HA
   simp only [postriderlaw18_Few.l0] at H
   by_cases c13 : x4_1 < (l0_0.length : Int)
   ·rw [if_pos c13] at H
    have c13b0 : decide (x4_1 < (l0_0.length : Int)) = true := decide_eq_true c13
    clear c13
    by_cases c14 : x4_1 < 15
    ·rw [if_pos c14] at H
     have c14b0 : decide (x4_1 < 15) = true := decide_eq_true c14
     clear c14
     by_cases c15 : 0 ≤ x4_1
     rotate_left
     ·rw [if_neg c15] at H
      exact ab H
     rw [if_pos c15] at H
     have c15b0 : decide (0 ≤ x4_1) = true := decide_eq_true c15
     clear c15
     obtain ⟨ji16, hji16⟩ : ∃ j_ : Int, (mn (((rd_T72 l0_0 x4_1).f0).size : Int) 600) = j_ := ⟨_, rfl⟩
     replace H : (if 0 ≤ (ji16) then (if (ji16) ≤ (((rd_T72 l0_0 x4_1).f0).size : Int) then (if 0 ≤ (mn (((rd_T72 l0_0 x4_1).f1).size : Int) 600) then (if (mn (((rd_T72 l0_0 x4_1).f1).size : Int) 600) ≤ (((rd_T72 l0_0 x4_1).f1).size : Int) then (if 0 ≤ (mn (((rd_T72 l0_0 x4_1).f2).size : Int) 600) then (if (mn (((rd_T72 l0_0 x4_1).f2).size : Int) 600) ≤ (((rd_T72 l0_0 x4_1).f2).size : Int) then (if x104000_1.length < 2932031007402 then (postriderlaw18_Few.l0 k1 (wrap64 (x4_1 + 1)) l0_0 a0_1 a0_2 (x104000_1 ++ [(⟨((rd_T72 l0_0 x4_1).f0).extract 0 ((ji16) : Int).toNat, ((rd_T72 l0_0 x4_1).f1).extract 0 ((mn (((rd_T72 l0_0 x4_1).f1).size : Int) 600) : Int).toNat, ((rd_T72 l0_0 x4_1).f2).extract 0 ((mn (((rd_T72 l0_0 x4_1).f2).size : Int) 600) : Int).toNat⟩ : S72)]) js5 a0_2) else (none)) else (none)) else (none)) else (none)) else (none)) else (none)) else (none)) = some (r1, r2, r3) := by first | (rw [hji16] at H; exact H) | (simp only [hji16] at H ⊢; exact H)
     have hji16_ : (if 600 < (((rd_T72 l0_0 x4_1).f0).size : Int) then 600 else (((rd_T72 l0_0 x4_1).f0).size : Int)) = ji16 := hji16
     by_cases c17 : 0 ≤ (ji16)
     rotate_left
     ·rw [if_neg c17] at H
      exact ab H
     rw [if_pos c17] at H
     have c17b0 := eq_true c17
     have c17b1 : decide (0 ≤ (ji16)) = true := decide_eq_true c17
     clear c17
     by_cases c18 : (ji16) ≤ (((rd_T72 l0_0 x4_1).f0).size : Int)
     rotate_left
     ·rw [if_neg c18] at H
      exact ab H
     rw [if_pos c18] at H
     have c18b0 := eq_true c18
     have c18b1 : decide ((ji16) ≤ (((rd_T72 l0_0 x4_1).f0).size : Int)) = true := decide_eq_true c18
     clear c18
     obtain ⟨js19, hjs19⟩ : ∃ j_ : ByteArray, (((rd_T72 l0_0 x4_1).f0).extract 0 ((ji16) : Int).toNat) = j_ := ⟨_, rfl⟩
     replace H : (if 0 ≤ (mn (((rd_T72 l0_0 x4_1).f1).size : Int) 600) then (if (mn (((rd_T72 l0_0 x4_1).f1).size : Int) 600) ≤ (((rd_T72 l0_0 x4_1).f1).size : Int) then (if 0 ≤ (mn (((rd_T72 l0_0 x4_1).f2).size : Int) 600) then (if (mn (((rd_T72 l0_0 x4_1).f2).size : Int) 600) ≤ (((rd_T72 l0_0 x4_1).f2).size : Int) then (if x104000_1.length < 2932031007402 then (postriderlaw18_Few.l0 k1 (wrap64 (x4_1 + 1)) l0_0 a0_1 a0_2 (x104000_1 ++ [(⟨js19, ((rd_T72 l0_0 x4_1).f1).extract 0 ((mn (((rd_T72 l0_0 x4_1).f1).size : Int) 600) : Int).toNat, ((rd_T72 l0_0 x4_1).f2).extract 0 ((mn (((rd_T72 l0_0 x4_1).f2).size : Int) 600) : Int).toNat⟩ : S72)]) js5 a0_2) else (none)) else (none)) else (none)) else (none)) else (none)) = some (r1, r2, r3) := by first | (rw [hjs19] at H; exact H) | (simp only [hjs19] at H ⊢; exact H)
     obtain ⟨ji20, hji20⟩ : ∃ j_ : Int, (mn (((rd_T72 l0_0 x4_1).f1).size : Int) 600) = j_ := ⟨_, rfl⟩
     replace H : (if 0 ≤ (ji20) then (if (ji20) ≤ (((rd_T72 l0_0 x4_1).f1).size : Int) then (if 0 ≤ (mn (((rd_T72 l0_0 x4_1).f2).size : Int) 600) then (if (mn (((rd_T72 l0_0 x4_1).f2).size : Int) 600) ≤ (((rd_T72 l0_0 x4_1).f2).size : Int) then (if x104000_1.length < 2932031007402 then (postriderlaw18_Few.l0 k1 (wrap64 (x4_1 + 1)) l0_0 a0_1 a0_2 (x104000_1 ++ [(⟨js19, ((rd_T72 l0_0 x4_1).f1).extract 0 ((ji20) : Int).toNat, ((rd_T72 l0_0 x4_1).f2).extract 0 ((mn (((rd_T72 l0_0 x4_1).f2).size : Int) 600) : Int).toNat⟩ : S72)]) js5 a0_2) else (none)) else (none)) else (none)) else (none)) else (none)) = some (r1, r2, r3) := by first | (rw [hji20] at H; exact H) | (simp only [hji20] at H ⊢; exact H)
     have hji20_ : (if 600 < (((rd_T72 l0_0 x4_1).f1).size : Int) then 600 else (((rd_T72 l0_0 x4_1).f1).size : Int)) = ji20 := hji20
     by_cases c21 : 0 ≤ (ji20)
     rotate_left
     ·rw [if_neg c21] at H
      exact ab H
     rw [if_pos c21] at H
     have c21b0 := eq_true c21
     have c21b1 : decide (0 ≤ (ji20)) = true := decide_eq_true c21
     clear c21
     by_cases c22 : (ji20) ≤ (((rd_T72 l0_0 x4_1).f1).size : Int)
     rotate_left
     ·rw [if_neg c22] at H
      exact ab H
     rw [if_pos c22] at H
     have c22b0 := eq_true c22
     have c22b1 : decide ((ji20) ≤ (((rd_T72 l0_0 x4_1).f1).size : Int)) = true := decide_eq_true c22
     clear c22
     obtain ⟨js23, hjs23⟩ : ∃ j_ : ByteArray, (((rd_T72 l0_0 x4_1).f1).extract 0 ((ji20) : Int).toNat) = j_ := ⟨_, rfl⟩
     replace H : (if 0 ≤ (mn (((rd_T72 l0_0 x4_1).f2).size : Int) 600) then (if (mn (((rd_T72 l0_0 x4_1).f2).size : Int) 600) ≤ (((rd_T72 l0_0 x4_1).f2).size : Int) then (if x104000_1.length < 2932031007402 then (postriderlaw18_Few.l0 k1 (wrap64 (x4_1 + 1)) l0_0 a0_1 a0_2 (x104000_1 ++ [(⟨js19, js23, ((rd_T72 l0_0 x4_1).f2).extract 0 ((mn (((rd_T72 l0_0 x4_1).f2).size : Int) 600) : Int).toNat⟩ : S72)]) js5 a0_2) else (none)) else (none)) else (none)) = some (r1, r2, r3) := by first | (rw [hjs23] at H; exact H) | (simp only [hjs23] at H ⊢; exact H)
     obtain ⟨ji24, hji24⟩ : ∃ j_ : Int, (mn (((rd_T72 l0_0 x4_1).f2).size : Int) 600) = j_ := ⟨_, rfl⟩
     replace H : (if 0 ≤ (ji24) then (if (ji24) ≤ (((rd_T72 l0_0 x4_1).f2).size : Int) then (if x104000_1.length < 2932031007402 then (postriderlaw18_Few.l0 k1 (wrap64 (x4_1 + 1)) l0_0 a0_1 a0_2 (x104000_1 ++ [(⟨js19, js23, ((rd_T72 l0_0 x4_1).f2).extract 0 ((ji24) : Int).toNat⟩ : S72)]) js5 a0_2) else (none)) else (none)) else (none)) = some (r1, r2, r3) := by first | (rw [hji24] at H; exact H) | (simp only [hji24] at H ⊢; exact H)
     have hji24_ : (if 600 < (((rd_T72 l0_0 x4_1).f2).size : Int) then 600 else (((rd_T72 l0_0 x4_1).f2).size : Int)) = ji24 := hji24
     by_cases c25 : 0 ≤ (ji24)
     rotate_left
     ·rw [if_neg c25] at H
      exact ab H
     rw [if_pos c25] at H
     have c25b0 := eq_true c25
     have c25b1 : decide (0 ≤ (ji24)) = true := decide_eq_true c25
     clear c25
     by_cases c26 : (ji24) ≤ (((rd_T72 l0_0 x4_1).f2).size : Int)
     rotate_left
     ·rw [if_neg c26] at H
      exact ab H
     rw [if_pos c26] at H
     have c26b0 := eq_true c26
     have c26b1 : decide ((ji24) ≤ (((rd_T72 l0_0 x4_1).f2).size : Int)) = true := decide_eq_true c26
     clear c26
     obtain ⟨js27, hjs27⟩ : ∃ j_ : ByteArray, (((rd_T72 l0_0 x4_1).f2).extract 0 ((ji24) : Int).toNat) = j_ := ⟨_, rfl⟩
     replace H : (if x104000_1.length < 2932031007402 then (postriderlaw18_Few.l0 k1 (wrap64 (x4_1 + 1)) l0_0 a0_1 a0_2 (x104000_1 ++ [(⟨js19, js23, js27⟩ : S72)]) js5 a0_2) else (none)) = some (r1, r2, r3) := by first | (rw [hjs27] at H; exact H) | (simp only [hjs27] at H ⊢; exact H)
     by_cases c28 : x104000_1.length < 2932031007402
     rotate_left
     ·rw [if_neg c28] at H
      exact ab H
     rw [if_pos c28] at H
     have LMc28 := Aside0.mk c28
     clear c28
     obtain ⟨y106, hy106⟩ : ∃ y_ : List (S72), y_ = (x104000_1 ++ [(⟨js19, js23, js27⟩ : S72)]) := ⟨_, rfl⟩
     replace H : (postriderlaw18_Few.l0 k1 (wrap64 (x4_1 + 1)) l0_0 a0_1 a0_2 y106 js5 a0_2) = some (r1, r2, r3) := by first | (rw [hy106]; with_reducible exact H) | (have H2_ := (Option.bind_some _ _).symm.trans H; rw [hy106]; with_reducible exact H2_) | (have H2_ := (Option.bind_some _ _).symm.trans H; with_reducible exact H2_) | with_reducible exact H | (rw [hy106]; exact H) | exact H
     have Ny106 := Aside0.mk hy106
     clear hy106
     have H' := Aside0.mk H
     clear H
     have hnb29 := NB101_102.out
     have hnc29 := NB102_101.out
     have hnb30 := NB101_103.out
     have hnc30 := NB103_101.out
     have hcz31_0 := cz BK101.out 0 (.slice A0_0 l0_0.length c0_0)
     have hcz31_1 := cz BK101.out 1 (.string a0_1)
     have hcz31_2 := cz BK101.out 2 (.bool a0_2)
     have hfz31_0 := blk_frozen BK101.out 0
     have hfz31_1 := blk_frozen BK101.out 1
     have hfz31_2 := blk_frozen BK101.out 2
     have p104 : 0 ≤ (x4_1 : Int) := od
     have q104 : x4_1 < (l0_0.length : Int) := od
     obtain ⟨ad104, e104, hx104_0, hx104_1, hx104_2⟩ := at_T72 HR0_0.out x4_1 p104 q104
     cases e104
     replace hx104_0 := (HB.out.cell (World.block_lt_of_cell? w _ hx104_0)).trans hx104_0
     replace hx104_1 := (HB.out.cell (World.block_lt_of_cell? w _ hx104_1)).trans hx104_1
     replace hx104_2 := (HB.out.cell (World.block_lt_of_cell? w _ hx104_2)).trans hx104_2
     replace p104 := eq_true p104
     replace q104 := eq_true q104
     try go_wp2_with (first | ((with_reducible refine gate_dst (N := 5) rfl ?_); refine box_event ?hg (N := 5) ?hd (cs := #[.string (⟨#[]⟩ : ByteArray), .string (⟨#[]⟩ : ByteArray), .string (⟨#[]⟩ : ByteArray)]) (t := 72) ?hr ?_; (case hd => rfl); (case hg => rfl); (case hr => first | (go_simp; done) | (go_simp; rfl)); intro gb105 hg w32 hbox hb; replace HO_104000 := Aside0.mk (Kd.R_below (Kd.R_elderB (kr HO_104000.out) gb105 (Nat.le_of_eq hg.symm)) hb); have BK105 := Aside0.mk (hbox); have GW105 := Aside0.mk (gz hg : w.heap.size ≤ gb105); have GE105 := Aside0.mk (gz hg : w.heap.size ≤ gb105); replace HB := Aside0.mk (below_step bl hb); have NB101_105 := Aside0.mk (nl hg BK101.out : gb101 ≠ gb105); have NB105_101 := Aside0.mk (ng hg BK101.out : gb105 ≠ gb101); replace BK101 := Aside0.mk (kb BK101.out hb); have NB102_105 := Aside0.mk (nl hg BK102.out : gb102 ≠ gb105); have NB105_102 := Aside0.mk (ng hg BK102.out : gb105 ≠ gb102); replace BK102 := Aside0.mk (kb BK102.out hb); have NB103_105 := Aside0.mk (nl hg BK103.out : gb103 ≠ gb105); have NB105_103 := Aside0.mk (ng hg BK103.out : gb105 ≠ gb103); replace BK103 := Aside0.mk (kb BK103.out hb); clear hb hbox hg; have hnb33 := NB105_101.out; have hnc33 := NB101_105.out; have hnb34 := NB105_102.out; have hnc34 := NB102_105.out; have hnb35 := NB105_103.out; have hnc35 := NB103_105.out; have hcz36_0 := cz BK105.out 0 (.string (⟨#[]⟩ : ByteArray)); have hcz36_1 := cz BK105.out 1 (.string (⟨#[]⟩ : ByteArray)); have hcz36_2 := cz BK105.out 2 (.string (⟨#[]⟩ : ByteArray)); have hfz36_0 := blk_frozen BK105.out 0; have hfz36_1 := blk_frozen BK105.out 1; have hfz36_2 := blk_frozen BK105.out 2))
     have n0_ : Aside0 (Kd.R k72 72 (((w32.setCell ⟨gb105, 0, none⟩ (.string ((rd_T72 l0_0 x4_1).f0))).setCell ⟨gb105, 1, none⟩ (.string ((rd_T72 l0_0 x4_1).f1))).setCell ⟨gb105, 2, none⟩ (.string ((rd_T72 l0_0 x4_1).f2))) w.heap.size (fun k_ => k_ ≠ gb105) u104000 x104000_1) := ⟨by (with_reducible repeat (first | apply Kd.R_alloc | apply Kd.R_drewN | apply Kd.R_drew)); exact Kd.R_mono (Kd.R_far (p := ⟨gb105, 2, none⟩) (Kd.R_far (p := ⟨gb105, 1, none⟩) (Kd.R_far (p := ⟨gb105, 0, none⟩) (Kd.R_mono HO_104000.out (fun k_ hk => (⟨hk, hk.2⟩ : _ ∧ k_ ≠ gb105))) (fun _ hk => hk.2) (.string ((rd_T72 l0_0 x4_1).f0))) (fun _ hk => hk.2) (.string ((rd_T72 l0_0 x4_1).f1))) (fun _ hk => hk.2) (.string ((rd_T72 l0_0 x4_1).f2))) (fun _ hk => hk.1.2)⟩
     have n1_ : Aside0 ((((w32.setCell ⟨gb105, 0, none⟩ (.string ((rd_T72 l0_0 x4_1).f0))).setCell ⟨gb105, 1, none⟩ (.string ((rd_T72 l0_0 x4_1).f1))).setCell ⟨gb105, 2, none⟩ (.string ((rd_T72 l0_0 x4_1).f2))).heap[gb101]? = some (.cells #[.slice (some ad104) l0_0.length c0_0, .string a0_1, .bool a0_2] 24 (0, 0))) := ⟨bk BK101.out⟩
     have n2_ : Aside0 ((((w32.setCell ⟨gb105, 0, none⟩ (.string ((rd_T72 l0_0 x4_1).f0))).setCell ⟨gb105, 1, none⟩ (.string ((rd_T72 l0_0 x4_1).f1))).setCell ⟨gb105, 2, none⟩ (.string ((rd_T72 l0_0 x4_1).f2))).heap[gb102]? = some (.cells #[.slice none 0 0, .string (⟨#[]⟩ : ByteArray), .bool false] 24 (0, 0))) := ⟨bk BK102.out⟩
     have n3_ : Aside0 ((((w32.setCell ⟨gb105, 0, none⟩ (.string ((rd_T72 l0_0 x4_1).f0))).setCell ⟨gb105, 1, none⟩ (.string ((rd_T72 l0_0 x4_1).f1))).setCell ⟨gb105, 2, none⟩ (.string ((rd_T72 l0_0 x4_1).f2))).heap[gb103]? = some (.cells #[u104000, .string js5, .bool a0_2] 24 (0, 0))) := ⟨bk BK103.out⟩
     have n4_ : Aside0 ((((w32.setCell ⟨gb105, 0, none⟩ (.string ((rd_T72 l0_0 x4_1).f0))).setCell ⟨gb105, 1, none⟩ (.string ((rd_T72 l0_0 x4_1).f1))).setCell ⟨gb105, 2, none⟩ (.string ((rd_T72 l0_0 x4_1).f2))).heap[gb105]? = some (.cells #[.string ((rd_T72 l0_0 x4_1).f0), .string ((rd_T72 l0_0 x4_1).f1), .string ((rd_T72 l0_0 x4_1).f2)] 72 (0, 0))) := ⟨by (with_reducible repeat (first | refine blk_drewN ?_ _ | refine blk_drew ?_ | refine blk_alloc ?_ _)); refine blk_put (cs := #[.string ((rd_T72 l0_0 x4_1).f0), .string ((rd_T72 l0_0 x4_1).f1), .string (⟨#[]⟩ : ByteArray)]) ?_ 2 _ rfl; (with_reducible repeat (first | refine blk_drewN ?_ _ | refine blk_drew ?_ | refine blk_alloc ?_ _)); refine blk_put (cs := #[.string ((rd_T72 l0_0 x4_1).f0), .string (⟨#[]⟩ : ByteArray), .string (⟨#[]⟩ : ByteArray)]) ?_ 1 _ rfl; (with_reducible repeat (first | refine blk_drewN ?_ _ | refine blk_drew ?_ | refine blk_alloc ?_ _)); refine blk_put (cs := #[.string (⟨#[]⟩ : ByteArray), .string (⟨#[]⟩ : ByteArray), .string (⟨#[]⟩ : ByteArray)]) ?_ 0 _ rfl; (with_reducible repeat (first | refine blk_drewN ?_ _ | refine blk_drew ?_ | refine blk_alloc ?_ _)); exact BK105.out⟩
     have n5_ : Aside0 (Below w.heap.size w (((w32.setCell ⟨gb105, 0, none⟩ (.string ((rd_T72 l0_0 x4_1).f0))).setCell ⟨gb105, 1, none⟩ (.string ((rd_T72 l0_0 x4_1).f1))).setCell ⟨gb105, 2, none⟩ (.string ((rd_T72 l0_0 x4_1).f2)))) := ⟨bl⟩
     (try clear HO_104000)
     (try clear BK101)
     (try clear BK102)
     (try clear BK103)
     (try clear BK105)
     (try clear HB)
     generalize (((w32.setCell ⟨gb105, 0, none⟩ (.string ((rd_T72 l0_0 x4_1).f0))).setCell ⟨gb105, 1, none⟩ (.string ((rd_T72 l0_0 x4_1).f1))).setCell ⟨gb105, 2, none⟩ (.string ((rd_T72 l0_0 x4_1).f2))) = w37 at n0_ n1_ n2_ n3_ n4_ n5_ ⊢
     have HO_104000 := n0_
     have BK101 := n1_
     have BK102 := n2_
     have BK103 := n3_
     have BK105 := n4_
     have HB := n5_
     clear n0_ n1_ n2_ n3_ n4_ n5_
     replace HO_104000 := Aside0.mk (Kd.R_drew HO_104000.out)
     replace BK101 := Aside0.mk (blk_drew BK101.out)
     replace BK102 := Aside0.mk (blk_drew BK102.out)
     replace BK103 := Aside0.mk (blk_drew BK103.out)
     replace BK105 := Aside0.mk (blk_drew BK105.out)
     replace HB := Aside0.mk (below_drew1 HB.out)
     refine start_ (n := 28) (S := fun w' => w'.cell? ⟨gb103, 0, none⟩ = some (u104000) ∧ w'.cell? ⟨gb103, 1, none⟩ = some (.string js5) ∧ w'.cell? ⟨gb103, 2, none⟩ = some (.bool a0_2) ∧ w'.cell? ⟨gb105, 0, none⟩ = some (.string ((rd_T72 l0_0 x4_1).f0)) ∧ w'.cell? ⟨gb105, 1, none⟩ = some (.string ((rd_T72 l0_0 x4_1).f1)) ∧ w'.cell? ⟨gb105, 2, none⟩ = some (.string ((rd_T72 l0_0 x4_1).f2))) (ds := [27]) #[false, false, false, false, false, false, false, false, false, false, false, false, false, false, false, false, false, false, false, false, false, false, false, false, false, false, false, false] kf rfl rfl ⟨(blk_cell BK103.out 0).trans rfl, (blk_cell BK103.out 1).trans rfl, (blk_cell BK103.out 2).trans rfl, (blk_cell BK105.out 0).trans rfl, (blk_cell BK105.out 1).trans rfl, (blk_cell BK105.out 2).trans rfl⟩ (fun hHeld => ?_); refine with_tabW postriderlaw18_Few.tab6 postriderlaw18_Few.bits6 (fun HT_ HW_ => ?_)
     generalize w37.drew = w38 at HO_104000 BK101 BK102 BK103 BK105 HB hHeld ⊢
     refine pure_ (i := 0) (N := some 32) (v := ?_) (a' := ?_) #[true, false, false, false, false, false, false, false, false, false, false, false, false, false, false, false, false, false, false, false, false, false, false, false, false, false, false, false] rfl rfl (any_of HT_.out kf) (fun _ _ _ h => h) (Or.inl ⟨by rfl, ?_⟩) ?_ ?_
     rotate_left
     ·intro w'
      go_simp
      with_reducible rfl
     rotate_left
     ·simp only [Act.put, sA, sB, sC, i64_w, i32_w]
      rfl
     refine pure_ (i := 2) (N := some 34) (v := ?_) (a' := ?_) #[true, false, true, false, false, false, false, false, false, false, false, false, false, false, false, false, false, false, false, false, false, false, false, false, false, false, false, false] rfl rfl (any_of HT_.out kf) (fun _ _ _ h => h) (Or.inl ⟨by rfl, ?_⟩) ?_ ?_
     rotate_left
     ·intro w'
      go_simp
      with_reducible rfl
     rotate_left
     ·simp only [Act.put, sA, sB, sC, i64_w, i32_w]
      rfl
     refine pure_ (i := 4) (N := some 36) (v := ?_) (a' := ?_) #[true, false, true, false, true, false, false, false, false, false, false, false, false, false, false, false, false, false, false, false, false, false, false, false, false, false, false, false] rfl rfl (any_of HT_.out kf) (fun _ _ _ h => h) (Or.inl ⟨by rfl, ?_⟩) ?_ ?_
     rotate_left
     ·intro w'
      go_simp
      with_reducible rfl
     rotate_left
     ·simp only [Act.put, sA, sB, sC, i64_w, i32_w]
      rfl
     refine pure_ (i := 9) (N := some 41) (v := ?_) (a' := ?_) #[true, false, true, false, true, false, false, false, false, true, false, false, false, false, false, false, false, false, false, false, false, false, false, false, false, false, false, false] rfl rfl (any_of HT_.out kf) (fun _ _ _ h => h) (Or.inl ⟨by rfl, ?_⟩) ?_ ?_
     rotate_left
     ·intro w'
      go_simp
      with_reducible rfl
     rotate_left
     ·simp only [Act.put, sA, sB, sC, i64_w, i32_w]
      rfl
     refine pure_ (i := 11) (N := some 43) (v := ?_) (a' := ?_) #[true, false, true, false, true, false, false, false, false, true, false, true, false, false, false, false, false, false, false, false, false, false, false, false, false, false, false, false] rfl rfl (any_of HT_.out kf) (fun _ _ _ h => h) (Or.inl ⟨by rfl, ?_⟩) ?_ ?_
     rotate_left
     ·intro w'
      go_simp
      with_reducible rfl
     rotate_left
     ·simp only [Act.put, sA, sB, sC, i64_w, i32_w]
      rfl
     refine pure_ (i := 16) (N := some 48) (v := ?_) (a' := ?_) #[true, false, true, false, true, false, false, false, false, true, false, true, false, false, false, false, true, false, false, false, false, false, false, false, false, false, false, false] rfl rfl (any_of HT_.out kf) (fun _ _ _ h => h) (Or.inl ⟨by rfl, ?_⟩) ?_ ?_
     rotate_left
     ·intro w'
      go_simp
      with_reducible rfl
     rotate_left
     ·simp only [Act.put, sA, sB, sC, i64_w, i32_w]
      rfl
     refine pure_ (i := 18) (N := some 50) (v := ?_) (a' := ?_) #[true, false, true, false, true, false, false, false, false, true, false, true, false, false, false, false, true, false, true, false, false, false, false, false, false, false, false, false] rfl rfl (any_of HT_.out kf) (fun _ _ _ h => h) (Or.inl ⟨by rfl, ?_⟩) ?_ ?_
     rotate_left
     ·intro w'
      go_simp
      with_reducible rfl
     rotate_left
     ·simp only [Act.put, sA, sB, sC, i64_w, i32_w]
      rfl
     refine take_ (i := 1) (N := some 33) (v := ?_) (a' := ?_) #[true, true, true, false, true, false, false, false, false, true, false, true, false, false, false, false, true, false, true, false, false, false, false, false, false, false, false, false] rfl rfl (take_ofW HT_.out HW_.out kf) (fun _ _ _ h => h) (Or.inl ⟨by rfl, ?_⟩) hHeld ?_ ?_
     rotate_left
     ·rintro w' ⟨s0, s1, s2, s3, s4, s5⟩
      go_simp
      with_reducible rfl
     rotate_left
     ·simp only [Act.put, sA, sB, sC, i64_w, i32_w]
      rfl
     refine take_ (i := 3) (N := some 35) (v := ?_) (a' := ?_) #[true, true, true, true, true, false, false, false, false, true, false, true, false, false, false, false, true, false, true, false, false, false, false, false, false, false, false, false] rfl rfl (take_ofW HT_.out HW_.out kf) (fun _ _ _ h => h) (Or.inl ⟨by rfl, ?_⟩) hHeld ?_ ?_
     rotate_left
     ·rintro w' ⟨s0, s1, s2, s3, s4, s5⟩
      go_simp
      with_reducible rfl
     rotate_left
     ·simp only [Act.put, sA, sB, sC, i64_w, i32_w]
      rfl
     refine take_ (i := 5) (N := some 37) (v := ?_) (a' := ?_) #[true, true, true, true, true, true, false, false, false, true, false, true, false, false, false, false, true, false, true, false, false, false, false, false, false, false, false, false] rfl rfl (take_ofW HT_.out HW_.out kf) (fun _ _ _ h => h) (Or.inl ⟨by rfl, ?_⟩) hHeld ?_ ?_
     rotate_left
     ·rintro w' ⟨s0, s1, s2, s3, s4, s5⟩
      go_simp
      with_reducible rfl
     rotate_left
     ·simp only [Act.put, sA, sB, sC, i64_w, i32_w]
      rfl
     refine pure_ (i := 6) (N := some 38) (v := ?_) (a' := ?_) #[true, true, true, true, true, true, true, false, false, true, false, true, false, false, false, false, true, false, true, false, false, false, false, false, false, false, false, false] rfl rfl (any_of HT_.out kf) (fun _ _ _ h => h) (Or.inl ⟨by rfl, ?_⟩) ?_ ?_
     rotate_left
     ·intro w'
      go_simp
      with_reducible rfl
     rotate_left
     ·simp only [Act.put, sA, sB, sC, i64_w, i32_w]
      rfl
     refine pure_ (i := 7) (N := some 39) (v := ?_) (a' := ?_) #[true, true, true, true, true, true, true, true, false, true, false, true, false, false, false, false, true, false, true, false, false, false, false, false, false, false, false, false] rfl rfl (any_of HT_.out kf) (fun _ _ _ h => h) (Or.inl ⟨by rfl, ?_⟩) ?_ ?_
     rotate_left
     ·intro w'
      go_simp
      with_reducible rfl
     rotate_left
     ·simp only [Act.put, sA, sB, sC, i64_w, i32_w]
      rfl
     refine pure_ (i := 8) (N := some 40) (v := ?_) (a' := ?_) #[true, true, true, true, true, true, true, true, true, true, false, true, false, false, false, false, true, false, true, false, false, false, false, false, false, false, false, false] rfl rfl (any_of HT_.out kf) (fun _ _ _ h => h) (Or.inl ⟨by rfl, ?_⟩) ?_ ?_
     rotate_left
     ·intro w'
      go_simp
      with_reducible rfl
     rotate_left
     ·simp only [Act.put, sA, sB, sC, i64_w, i32_w]
      rfl
     refine take_ (i := 10) (N := some 42) (v := ?_) (a' := ?_) #[true, true, true, true, true, true, true, true, true, true, true, true, false, false, false, false, true, false, true, false, false, false, false, false, false, false, false, false] rfl rfl (take_ofW HT_.out HW_.out kf) (fun _ _ _ h => h) (Or.inl ⟨by rfl, ?_⟩) hHeld ?_ ?_
     rotate_left
     ·rintro w' ⟨s0, s1, s2, s3, s4, s5⟩
      go_simp
      with_reducible rfl
     rotate_left
     ·simp only [Act.put, sA, sB, sC, i64_w, i32_w]
      rfl
     refine take_ (i := 12) (N := some 44) (v := ?_) (a' := ?_) #[true, true, true, true, true, true, true, true, true, true, true, true, true, false, false, false, true, false, true, false, false, false, false, false, false, false, false, false] rfl rfl (take_ofW HT_.out HW_.out kf) (fun _ _ _ h => h) (Or.inl ⟨by rfl, ?_⟩) hHeld ?_ ?_
     rotate_left
     ·rintro w' ⟨s0, s1, s2, s3, s4, s5⟩
      go_simp
      with_reducible rfl
     rotate_left
     ·simp only [Act.put, sA, sB, sC, i64_w, i32_w]
      rfl
     refine pure_ (i := 13) (N := some 45) (v := ?_) (a' := ?_) #[true, true, true, true, true, true, true, true, true, true, true, true, true, true, false, false, true, false, true, false, false, false, false, false, false, false, false, false] rfl rfl (any_of HT_.out kf) (fun _ _ _ h => h) (Or.inl ⟨by rfl, ?_⟩) ?_ ?_
     rotate_left
     ·intro w'
      go_simp
      with_reducible rfl
     rotate_left
     ·simp only [Act.put, sA, sB, sC, i64_w, i32_w]
      rfl
     refine pure_ (i := 14) (N := some 46) (v := ?_) (a' := ?_) #[true, true, true, true, true, true, true, true, true, true, true, true, true, true, true, false, true, false, true, false, false, false, false, false, false, false, false, false] rfl rfl (any_of HT_.out kf) (fun _ _ _ h => h) (Or.inl ⟨by rfl, ?_⟩) ?_ ?_
     rotate_left
     ·intro w'
      go_simp
      with_reducible rfl
     rotate_left
     ·simp only [Act.put, sA, sB, sC, i64_w, i32_w]
      rfl
     refine pure_ (i := 15) (N := some 47) (v := ?_) (a' := ?_) #[true, true, true, true, true, true, true, true, true, true, true, true, true, true, true, true, true, false, true, false, false, false, false, false, false, false, false, false] rfl rfl (any_of HT_.out kf) (fun _ _ _ h => h) (Or.inl ⟨by rfl, ?_⟩) ?_ ?_
     rotate_left
     ·intro w'
      go_simp
      with_reducible rfl
     rotate_left
     ·simp only [Act.put, sA, sB, sC, i64_w, i32_w]
      rfl
     refine take_ (i := 17) (N := some 49) (v := ?_) (a' := ?_) #[true, true, true, true, true, true, true, true, true, true, true, true, true, true, true, true, true, true, true, false, false, false, false, false, false, false, false, false] rfl rfl (take_ofW HT_.out HW_.out kf) (fun _ _ _ h => h) (Or.inl ⟨by rfl, ?_⟩) hHeld ?_ ?_
     rotate_left
     ·rintro w' ⟨s0, s1, s2, s3, s4, s5⟩
      go_simp
      with_reducible rfl
     rotate_left
     ·simp only [Act.put, sA, sB, sC, i64_w, i32_w]
      rfl
     refine take_ (i := 19) (N := some 51) (v := ?_) (a' := ?_) #[true, true, true, true, true, true, true, true, true, true, true, true, true, true, true, true, true, true, true, true, false, false, false, false, false, false, false, false] rfl rfl (take_ofW HT_.out HW_.out kf) (fun _ _ _ h => h) (Or.inl ⟨by rfl, ?_⟩) hHeld ?_ ?_
     rotate_left
     ·rintro w' ⟨s0, s1, s2, s3, s4, s5⟩
      go_simp
      with_reducible rfl
     rotate_left
     ·simp only [Act.put, sA, sB, sC, i64_w, i32_w]
      rfl
     refine pure_ (i := 20) (N := some 52) (v := ?_) (a' := ?_) #[true, true, true, true, true, true, true, true, true, true, true, true, true, true, true, true, true, true, true, true, true, false, false, false, false, false, false, false] rfl rfl (any_of HT_.out kf) (fun _ _ _ h => h) (Or.inl ⟨by rfl, ?_⟩) ?_ ?_
     rotate_left
     ·intro w'
      go_simp
      with_reducible rfl
     rotate_left
     ·simp only [Act.put, sA, sB, sC, i64_w, i32_w]
      rfl
     refine pure_ (i := 21) (N := some 53) (v := ?_) (a' := ?_) #[true, true, true, true, true, true, true, true, true, true, true, true, true, true, true, true, true, true, true, true, true, true, false, false, false, false, false, false] rfl rfl (any_of HT_.out kf) (fun _ _ _ h => h) (Or.inl ⟨by rfl, ?_⟩) ?_ ?_
     rotate_left
     ·intro w'
      go_simp
      with_reducible rfl
     rotate_left
     ·simp only [Act.put, sA, sB, sC, i64_w, i32_w]
      rfl
     refine pure_ (i := 22) (N := some 54) (v := ?_) (a' := ?_) #[true, true, true, true, true, true, true, true, true, true, true, true, true, true, true, true, true, true, true, true, true, true, true, false, false, false, false, false] rfl rfl (any_of HT_.out kf) (fun _ _ _ h => h) (Or.inl ⟨by rfl, ?_⟩) ?_ ?_
     rotate_left
     ·intro w'
      go_simp
      with_reducible rfl
     rotate_left
     ·simp only [Act.put, sA, sB, sC, i64_w, i32_w]
      rfl
     refine pure_ (i := 23) (N := some 55) (v := ?_) (a' := ?_) #[true, true, true, true, true, true, true, true, true, true, true, true, true, true, true, true, true, true, true, true, true, true, true, true, false, false, false, false] rfl rfl (any_of HT_.out kf) (fun _ _ _ h => h) (Or.inl ⟨by rfl, ?_⟩) ?_ ?_
     rotate_left
     ·intro w'
      go_simp
      with_reducible rfl
     rotate_left
     ·simp only [Act.put, sA, sB, sC, i64_w, i32_w]
      rfl
     refine one_ (i := 24) (N := some 56) #[true, true, true, true, true, true, true, true, true, true, true, true, true, true, true, true, true, true, true, true, true, true, true, true, true, false, false, false] rfl rfl (one_of HT_.out kf) (by decide) (fun K hK => ?_)
     refine value_ (w1 := ?_) (v := ?_) (by rfl) rfl ?_ ?_
     rotate_left 2
     ·go_simp
      constructor
      ·rfl
      ·rfl
     refine hK.out _ _ ⟨(blk_cell (blk_alloc BK103.out _) 0).trans rfl, (blk_cell (blk_alloc BK103.out _) 1).trans rfl, (blk_cell (blk_alloc BK103.out _) 2).trans rfl, (blk_cell (blk_alloc BK105.out _) 0).trans rfl, (blk_cell (blk_alloc BK105.out _) 1).trans rfl, (blk_cell (blk_alloc BK105.out _) 2).trans rfl⟩ (fun hHeld => ?_)
     clear hK K
     refine norm_ (a' := ?_) ?_ ?_
     rotate_left
     ·show Act.put _ (some 56) _ = _
      simp only [Act.put, sA, sB, sC, i64_w, i32_w]
      rfl
     refine one_ (i := 25) (N := some 57) #[true, true, true, true, true, true, true, true, true, true, true, true, true, true, true, true, true, true, true, true, true, true, true, true, true, true, false, false] rfl rfl (one_of HT_.out kf) (by decide) (fun K hK => ?_)
     refine Kd.R_append_step k72 (w0 := w) w.heap.size (by rfl) (.tmp 33) (.tmp 56) 22 72 (.agg #[(.string ⟨#[]⟩), (.string ⟨#[]⟩), (.string ⟨#[]⟩)]) 48 rfl Tryz.underlying22 info72 rfl (by decide) (by omega) u104000 x104000_1 (⟨js19, js23, js27⟩ : S72) [.string js19, .string js23, .string js27] (fun k_ => k_ ≠ gb105) (fun _ => False) rfl rfl ?aP (fun _ hk => hk.elim) ?aF ?aO ?aB ?aS ?aL ?_
     (case aP => exact k72_mkM _ _ _ (⟨js19, js23, js27⟩ : S72))
     (case aB => exact bl)
     (case aF => exact (fun k_ hk => Kd.freshB (g := gb105) (o := .cells #[.string ((rd_T72 l0_0 x4_1).f0), .string ((rd_T72 l0_0 x4_1).f1), .string ((rd_T72 l0_0 x4_1).f2)] 72 (0, 0)) (bk BK105.out) k_ hk))
     (case aO => exact (kr HO_104000.out))
     (case aS => exact (below_size bl))
     (case aL => have := LMc28.out; omega)
     intro v107 w39 ho hb hg hat
     rw [← Ny106.out] at ho
     replace BK101 := Aside0.mk (blk_grown (g := gb101) (o := .cells #[.slice (some ad104) l0_0.length c0_0, .string a0_1, .bool a0_2] 24 (0, 0)) (bk BK101.out) hg (Kd.R_ne HO_104000.out BK101.out (by decide)))
     replace BK102 := Aside0.mk (blk_grown (g := gb102) (o := .cells #[.slice none 0 0, .string (⟨#[]⟩ : ByteArray), .bool false] 24 (0, 0)) (bk BK102.out) hg (Kd.R_ne HO_104000.out BK102.out (by decide)))
     replace BK103 := Aside0.mk (blk_grown (g := gb103) (o := .cells #[u104000, .string js5, .bool a0_2] 24 (0, 0)) (bk BK103.out) hg (Kd.R_ne HO_104000.out BK103.out (by decide)))
     replace BK105 := Aside0.mk (blk_grown (g := gb105) (o := .cells #[.string ((rd_T72 l0_0 x4_1).f0), .string ((rd_T72 l0_0 x4_1).f1), .string ((rd_T72 l0_0 x4_1).f2)] 72 (0, 0)) (bk BK105.out) hg (Kd.R_away HO_104000.out (fun _ hk => hk)))
     replace HB := Aside0.mk (hb)
     have HO108 := Aside0.mk (ho)
     clear HO_104000 ho hb hg hat
     obtain ⟨Ao40, co40, eo40⟩ := Kd.R_slice HO108.out
     (first | subst eo40 | (injection eo40 with f1_ f2_ f3_; have f4_ := f1_.symm; have f5_ := f3_.symm; clear f1_ f2_ f3_; subst f4_; subst f5_))
     refine hK.out _ _ ⟨(blk_cell BK103.out 0).trans rfl, (blk_cell BK103.out 1).trans rfl, (blk_cell BK103.out 2).trans rfl, (blk_cell BK105.out 0).trans rfl, (blk_cell BK105.out 1).trans rfl, (blk_cell BK105.out 2).trans rfl⟩ (fun hHeld => ?_)
     clear hK K
     refine norm_ (a' := ?_) ?_ ?_
     rotate_left
     ·show Act.put _ (some 57) _ = _
      simp only [Act.put, sA, sB, sC, i64_w, i32_w]
      rfl
     refine pure_ (i := 26) (N := some 58) (v := ?_) (a' := ?_) #[true, true, true, true, true, true, true, true, true, true, true, true, true, true, true, true, true, true, true, true, true, true, true, true, true, true, true, false] rfl rfl (any_of HT_.out kf) (fun _ _ _ h => h) (Or.inl ⟨by rfl, ?_⟩) ?_ ?_
     rotate_left
     ·intro w'
      go_simp
      with_reducible rfl
     rotate_left
     ·simp only [Act.put, sA, sB, sC, i64_w, i32_w]
      rfl
     refine last_ (i := 27) (N := none) #[true, true, true, true, true, true, true, true, true, true, true, true, true, true, true, true, true, true, true, true, true, true, true, true, true, true, true, true] rfl rfl (one_of HT_.out kf) (by decide) (fun K hK => ?_)
     have hs41 : w39.cell? ⟨gb103, 0, none⟩ = some (u104000) := (blk_cell BK103.out 0).trans rfl
     have hfs41 := blk_frozen BK103.out 0
     have hns41_0 := NB101_103.out
     have hns41_1 := NB102_103.out
     have hns41_3 := NB105_103.out
     have hms41_0 := NB103_101.out
     have hms41_1 := NB103_102.out
     have hms41_3 := NB103_105.out
     refine skip_ (w1 := ?_) (by rfl) rfl ?_ ?_
     rotate_left
     ·go_simp
      rfl
     refine hK.out _ _ ?_
     clear hK K
     refine done_ (done_of HT_.out kf) ?_
     try go_wp2
     go_roundg k1
     case measure => have := HK1.out; omega
     case rel => exact ⟨(wrap64 (x4_1 + 1)), (y106), (.slice Ao40 y106.length co40), rs, H', ⟨by have := HK1.out; omega⟩, ⟨by (with_reducible repeat (first | apply Kd.R_alloc | apply Kd.R_drewN | apply Kd.R_drew)); exact Kd.R_mono (Kd.R_far (p := ⟨gb103, 0, none⟩) (Kd.R_types HO108.out BK103.out (by decide)) (fun _ hk => hk.2) (.slice Ao40 y106.length co40)) (fun _ hk => trivial)⟩, ⟨bk BK101.out⟩, ⟨bk BK102.out⟩, ⟨by (with_reducible repeat (first | refine blk_drewN ?_ _ | refine blk_drew ?_ | refine blk_alloc ?_ _)); refine blk_put (cs := #[u104000, .string js5, .bool a0_2]) ?_ 0 _ rfl; (with_reducible repeat (first | refine blk_drewN ?_ _ | refine blk_drew ?_ | refine blk_alloc ?_ _)); exact BK103.out⟩, ⟨bl⟩⟩
    ·rw [if_neg c14] at H
     have c14b0 : decide (x4_1 < 15) = false := decide_eq_false c14
     clear c14
     simp only [Option.some.injEq, Prod.mk.injEq] at H
     obtain ⟨rfl, rfl, rfl⟩ := H
     have hnb42 := NB101_102.out
     have hnc42 := NB102_101.out
     have hnb43 := NB101_103.out
     have hnc43 := NB103_101.out
     have hcz44_0 := cz BK101.out 0 (.slice A0_0 l0_0.length c0_0)
     have hcz44_1 := cz BK101.out 1 (.string a0_1)
     have hcz44_2 := cz BK101.out 2 (.bool a0_2)
     have hfz44_0 := blk_frozen BK101.out 0
     have hfz44_1 := blk_frozen BK101.out 1
     have hfz44_2 := blk_frozen BK101.out 2
     have hnb45 := NB103_102.out
     have hnc45 := NB102_103.out
     have hcz46_0 := cz BK103.out 0 (u104000)
     have hcz46_1 := cz BK103.out 1 (.string js5)
     have hcz46_2 := cz BK103.out 2 (.bool a0_2)
     have hfz46_0 := blk_frozen BK103.out 0
     have hfz46_1 := blk_frozen BK103.out 1
     have hfz46_2 := blk_frozen BK103.out 2
     obtain ⟨Ao47, co47, eo47⟩ := Kd.R_slice HO_104000.out
     subst eo47
     have hcz48_0 := cz BK102.out 0 (.slice none 0 0)
     have hcz48_1 := cz BK102.out 1 (.string (⟨#[]⟩ : ByteArray))
     have hcz48_2 := cz BK102.out 2 (.bool false)
     have hfz48_0 := blk_frozen BK102.out 0
     have hfz48_1 := blk_frozen BK102.out 1
     have hfz48_2 := blk_frozen BK102.out 2
     go_wp2
     refine bodyPost_ret (results_cell_row rfl _ _ gb102 24 #[.slice Ao47 x104000_1.length co47, .string js5, .bool a0_2] (0, 0) _ rfl (by (with_reducible repeat (first | refine blk_drewN ?_ _ | refine blk_drew ?_ | refine blk_alloc ?_ _)); refine blk_put (cs := #[.slice Ao47 x104000_1.length co47, .string js5, .bool false]) ?_ 2 _ rfl; (with_reducible repeat (first | refine blk_drewN ?_ _ | refine blk_drew ?_ | refine blk_alloc ?_ _)); refine blk_put (cs := #[.slice Ao47 x104000_1.length co47, .string (⟨#[]⟩ : ByteArray), .bool false]) ?_ 1 _ rfl; (with_reducible repeat (first | refine blk_drewN ?_ _ | refine blk_drew ?_ | refine blk_alloc ?_ _)); refine blk_put (cs := #[.slice none 0 0, .string (⟨#[]⟩ : ByteArray), .bool false]) ?_ 0 _ rfl; (with_reducible repeat (first | refine blk_drewN ?_ _ | refine blk_drew ?_ | refine blk_alloc ?_ _)); exact BK102.out) Tryz.underlying24 rfl kf) rfl ?_
     exact ⟨_, by first | rfl | (simp [errW_none, errW_some] <;> rfl) | (simp only [← hji2]; first | rfl | (simp [errW_none, errW_some] <;> rfl)) | (simp [*, errW_none, errW_some] <;> rfl), by (with_reducible repeat (first | apply Kd.R_alloc | apply Kd.R_drewN | apply Kd.R_drew)); exact Kd.R_mono (Kd.R_far (p := ⟨gb102, 2, none⟩) (Kd.R_far (p := ⟨gb102, 1, none⟩) (Kd.R_far (p := ⟨gb102, 0, none⟩) (Kd.R_types HO_104000.out BK102.out (by decide)) (fun _ hk => hk.2) (.slice Ao47 x104000_1.length co47)) (fun _ hk => hk.2) (.string js5)) (fun _ hk => hk.2) (.bool a0_2)) (fun _ hk => trivial), bl⟩
   ·rw [if_neg c13] at H
    have c13b0 : decide (x4_1 < (l0_0.length : Int)) = false := decide_eq_false c13
    clear c13
    simp only [Option.some.injEq, Prod.mk.injEq] at H
    obtain ⟨rfl, rfl, rfl⟩ := H
    have hnb49 := NB101_102.out
    have hnc49 := NB102_101.out
    have hnb50 := NB101_103.out
    have hnc50 := NB103_101.out
    have hcz51_0 := cz BK101.out 0 (.slice A0_0 l0_0.length c0_0)
    have hcz51_1 := cz BK101.out 1 (.string a0_1)
    have hcz51_2 := cz BK101.out 2 (.bool a0_2)
    have hfz51_0 := blk_frozen BK101.out 0
    have hfz51_1 := blk_frozen BK101.out 1
    have hfz51_2 := blk_frozen BK101.out 2
    have hnb52 := NB103_102.out
    have hnc52 := NB102_103.out
    have hcz53_0 := cz BK103.out 0 (u104000)
    have hcz53_1 := cz BK103.out 1 (.string js5)
    have hcz53_2 := cz BK103.out 2 (.bool a0_2)
    have hfz53_0 := blk_frozen BK103.out 0
    have hfz53_1 := blk_frozen BK103.out 1
    have hfz53_2 := blk_frozen BK103.out 2
    obtain ⟨Ao54, co54, eo54⟩ := Kd.R_slice HO_104000.out
    subst eo54
    have hcz55_0 := cz BK102.out 0 (.slice none 0 0)
    have hcz55_1 := cz BK102.out 1 (.string (⟨#[]⟩ : ByteArray))
    have hcz55_2 := cz BK102.out 2 (.bool false)
    have hfz55_0 := blk_frozen BK102.out 0
    have hfz55_1 := blk_frozen BK102.out 1
    have hfz55_2 := blk_frozen BK102.out 2
    go_wp2
    refine bodyPost_ret (results_cell_row rfl _ _ gb102 24 #[.slice Ao54 x104000_1.length co54, .string js5, .bool a0_2] (0, 0) _ rfl (by (with_reducible repeat (first | refine blk_drewN ?_ _ | refine blk_drew ?_ | refine blk_alloc ?_ _)); refine blk_put (cs := #[.slice Ao54 x104000_1.length co54, .string js5, .bool false]) ?_ 2 _ rfl; (with_reducible repeat (first | refine blk_drewN ?_ _ | refine blk_drew ?_ | refine blk_alloc ?_ _)); refine blk_put (cs := #[.slice Ao54 x104000_1.length co54, .string (⟨#[]⟩ : ByteArray), .bool false]) ?_ 1 _ rfl; (with_reducible repeat (first | refine blk_drewN ?_ _ | refine blk_drew ?_ | refine blk_alloc ?_ _)); refine blk_put (cs := #[.slice none 0 0, .string (⟨#[]⟩ : ByteArray), .bool false]) ?_ 0 _ rfl; (with_reducible repeat (first | refine blk_drewN ?_ _ | refine blk_drew ?_ | refine blk_alloc ?_ _)); exact BK102.out) Tryz.underlying24 rfl kf) rfl ?_
    exact ⟨_, by first | rfl | (simp [errW_none, errW_some] <;> rfl) | (simp only [← hji2]; first | rfl | (simp [errW_none, errW_some] <;> rfl)) | (simp [*, errW_none, errW_some] <;> rfl), by (with_reducible repeat (first | apply Kd.R_alloc | apply Kd.R_drewN | apply Kd.R_drew)); exact Kd.R_mono (Kd.R_far (p := ⟨gb102, 2, none⟩) (Kd.R_far (p := ⟨gb102, 1, none⟩) (Kd.R_far (p := ⟨gb102, 0, none⟩) (Kd.R_types HO_104000.out BK102.out (by decide)) (fun _ hk => hk.2) (.slice Ao54 x104000_1.length co54)) (fun _ hk => hk.2) (.string js5)) (fun _ hk => hk.2) (.bool a0_2)) (fun _ hk => trivial), bl⟩

end Go.Proofs.YtacjnapgdikhbaaGreatDoor.Q
end
section
namespace Go.Proofs.YtacjnapgdikhbaaGreatDoor.Q

/-! ### postriderlaw22_short: function 9 -/
def postriderlaw22_short.l0 : Nat → List (S50) → List (S50) → Int → Option ((List (S50)))
 | 0, _, _, _ => none
 | k + 1, x0, x3, x4 => if x4 < (x0.length : Int) then (if x4 < 20 then (if 0 ≤ x4 then (if 0 ≤ (mn (((rd_T50 x0 x4).f0).size : Int) 100) then (if (mn (((rd_T50 x0 x4).f0).size : Int) 100) ≤ (((rd_T50 x0 x4).f0).size : Int) then (if 0 ≤ (mn (((rd_T50 x0 x4).f1).size : Int) 100) then (if (mn (((rd_T50 x0 x4).f1).size : Int) 100) ≤ (((rd_T50 x0 x4).f1).size : Int) then (if x3.length < 4398046511104 then (postriderlaw22_short.l0 k x0 (x3 ++ [(⟨((rd_T50 x0 x4).f0).extract 0 ((mn (((rd_T50 x0 x4).f0).size : Int) 100) : Int).toNat, ((rd_T50 x0 x4).f1).extract 0 ((mn (((rd_T50 x0 x4).f1).size : Int) 100) : Int).toNat⟩ : S50)]) (wrap64 (x4 + 1))) else (none)) else (none)) else (none)) else (none)) else (none)) else (none)) else (some x3)) else (some x3)
def postriderlaw22_short.f (k : Nat) (l0 : List (S50)) : Option ((List (S50))) := postriderlaw22_short.l0 k l0 ([] : List (S50)) 0
theorem postriderlaw22_short.mono_l : ∀ k, (∀ y0 y1 y2, LeO (postriderlaw22_short.l0 k y0 y1 y2) (postriderlaw22_short.l0 (k + 1) y0 y1 y2))
 | 0 => fun _ _ _ r h => by simp [postriderlaw22_short.l0] at h
 | k + 1 => by
  have ih0 := postriderlaw22_short.mono_l k
  ·intro y0 y1 y2
   unfold postriderlaw22_short.l0
   repeat' first
   | (with_reducible first | exact ih0 _ _ _ | exact LeO.refl _ | exact LeO.none _ | refine LeO.ite ?_ ?_ | refine LeO.bind ?_ (fun _ => ?_))
theorem postriderlaw22_short.mono : ∀ a0 k, LeO (postriderlaw22_short.f k a0) (postriderlaw22_short.f (k + 1) a0) := by
 intro a0 k
 have ih0 := postriderlaw22_short.mono_l k
 unfold postriderlaw22_short.f
 repeat' first
   | (with_reducible first | exact ih0 _ _ _ | exact LeO.refl _ | exact LeO.none _ | refine LeO.ite ?_ ?_ | refine LeO.bind ?_ (fun _ => ?_))
def postriderlaw22_short.T5 : Bool × List (List Nat × List Nat) := (true, [([], []), ([], []), ([], []), ([1, 2], [1, 2]), ([3], [3]), ([4], [4]), ([], []), ([], []), ([6, 7], [6, 7]), ([8], [8]), ([9], [9]), ([10], [10]), ([11], [11]), ([5, 12], [5, 12]), ([], []), ([], []), ([14, 15], [14, 15]), ([16], [16]), ([17], [17]), ([], []), ([], []), ([19, 20], [19, 20]), ([21], [21]), ([22], [22]), ([23], [23]), ([24], [24]), ([18, 25], [18, 25]), ([13, 26], [13, 26]), ([27], [27]), ([0, 28], [0, 28]), ([29, 29, 0, 1, 2, 3, 4, 5, 6, 7, 8, 9, 10, 11, 12, 13, 14, 15, 16, 17, 18, 19, 20, 21, 22, 23, 24, 25, 26, 27, 28, 29], [0, 29])])
def postriderlaw22_short.B5 : List Nat := [0, 0, 0, 6, 14, 30, 0, 0, 192, 448, 960, 1984, 4032, 8190, 0, 0, 49152, 114688, 245760, 0, 0, 1572864, 3670016, 7864320, 16252928, 33030144, 67092480, 134217726, 268435454, 536870911, 1073741823]
theorem postriderlaw22_short.tab5 : rtab .any (opsOf Tryz.f9 5) = postriderlaw22_short.T5 := by kernel_rfl
theorem postriderlaw22_short.bits5 : waitsOk postriderlaw22_short.T5.2 postriderlaw22_short.B5 = true := by kernel_rfl
theorem postriderlaw22_short.calls (k : Nat) (A0 : Option Addr) (c0 : Nat) (l0 : List (S50)) (r : List (S50)) (w : World) (hr0 : Kd.C k50 w A0 l0.length l0) (hc0 : l0.length ≤ c0) (h : postriderlaw22_short.f k l0 = some r) :
  Calls Tryz.prog 9 #[.slice A0 l0.length c0] w fun e w' => ∃ v0_ : Value, e = .returned (v0_) ∧ Kd.R k50 50 w' w.heap.size (fun _ => True) v0_ r ∧ Below w.heap.size w w' := by
 have hu50 := Tryz.underlying50
 have HR0 := Aside0.mk hr0
 have HC0 := Aside0.mk hc0
 clear hr0 hc0
 have HB := Aside0.mk (Below.refl w.heap.size w)
 have H : (postriderlaw22_short.l0 k l0 ([] : List (S50)) 0) = some r := h
 clear h
 have H' := Aside0.mk H
 clear H
 go_enter Tryz.func9, Tryz.ntmps9
 go_wp2
 go_loopg [3, 4] k (fun kq v3 v4 w' => ∃ (x3_1 : List (S50)) (x4_1 : Int), v4 = .int .i64 x4_1 ∧ Aside0 (postriderlaw22_short.l0 kq l0 x3_1 x4_1 = some r) ∧ Aside0 (kq ≤ k) ∧ Aside0 (Kd.R k50 50 w' w.heap.size (fun _ => True) v3 x3_1) ∧ Aside0 (Below w.heap.size w w'))
 case atStart => exact ⟨(([] : List (S50))), (0), rs, H', ⟨Nat.le_refl _⟩, ⟨by first | exact Kd.R_nil _ _ _ _ _ | exact Kd.N_nil _ _ _ _ _ | exact Kd.V_nil _ _ _ _ _ | exact Kd.Q_nil _ _ _ _ _ | exact Kd.S_nil _ _ _ _ _⟩, ⟨bl⟩⟩
 case round =>
  clear H'
  obtain ⟨x3_1, x4_1, rfl, HA, HK1, HO_3, HB⟩ := hrel
  cases gk with
  | zero => exact absurd HA.out (by simp [postriderlaw22_short.l0])
  | succ k1 =>
   have H := HA.out
   clear HA
   simp only [postriderlaw22_short.l0] at H
   by_cases c2 : x4_1 < (l0.length : Int)
   ·rw [if_pos c2] at H
    have c2b0 : decide (x4_1 < (l0.length : Int)) = true := decide_eq_true c2
    clear c2
    by_cases c3 : x4_1 < 20
    ·rw [if_pos c3] at H
     have c3b0 : decide (x4_1 < 20) = true := decide_eq_true c3
     clear c3
     by_cases c4 : 0 ≤ x4_1
     rotate_left
     ·rw [if_neg c4] at H
      exact ab H
     rw [if_pos c4] at H
     have c4b0 : decide (0 ≤ x4_1) = true := decide_eq_true c4
     clear c4
     obtain ⟨ji5, hji5⟩ : ∃ j_ : Int, (mn (((rd_T50 l0 x4_1).f0).size : Int) 100) = j_ := ⟨_, rfl⟩
     replace H : (if 0 ≤ (ji5) then (if (ji5) ≤ (((rd_T50 l0 x4_1).f0).size : Int) then (if 0 ≤ (mn (((rd_T50 l0 x4_1).f1).size : Int) 100) then (if (mn (((rd_T50 l0 x4_1).f1).size : Int) 100) ≤ (((rd_T50 l0 x4_1).f1).size : Int) then (if x3_1.length < 4398046511104 then (postriderlaw22_short.l0 k1 l0 (x3_1 ++ [(⟨((rd_T50 l0 x4_1).f0).extract 0 ((ji5) : Int).toNat, ((rd_T50 l0 x4_1).f1).extract 0 ((mn (((rd_T50 l0 x4_1).f1).size : Int) 100) : Int).toNat⟩ : S50)]) (wrap64 (x4_1 + 1))) else (none)) else (none)) else (none)) else (none)) else (none)) = some r := by first | (rw [hji5] at H; exact H) | (simp only [hji5] at H ⊢; exact H)
     have hji5_ : (if 100 < (((rd_T50 l0 x4_1).f0).size : Int) then 100 else (((rd_T50 l0 x4_1).f0).size : Int)) = ji5 := hji5
     by_cases c6 : 0 ≤ (ji5)
     rotate_left
     ·rw [if_neg c6] at H
      exact ab H
     rw [if_pos c6] at H
     have c6b0 := eq_true c6
     have c6b1 : decide (0 ≤ (ji5)) = true := decide_eq_true c6
     clear c6
     by_cases c7 : (ji5) ≤ (((rd_T50 l0 x4_1).f0).size : Int)
     rotate_left
     ·rw [if_neg c7] at H
      exact ab H
     rw [if_pos c7] at H
     have c7b0 := eq_true c7
     have c7b1 : decide ((ji5) ≤ (((rd_T50 l0 x4_1).f0).size : Int)) = true := decide_eq_true c7
     clear c7
     obtain ⟨js8, hjs8⟩ : ∃ j_ : ByteArray, (((rd_T50 l0 x4_1).f0).extract 0 ((ji5) : Int).toNat) = j_ := ⟨_, rfl⟩
     replace H : (if 0 ≤ (mn (((rd_T50 l0 x4_1).f1).size : Int) 100) then (if (mn (((rd_T50 l0 x4_1).f1).size : Int) 100) ≤ (((rd_T50 l0 x4_1).f1).size : Int) then (if x3_1.length < 4398046511104 then (postriderlaw22_short.l0 k1 l0 (x3_1 ++ [(⟨js8, ((rd_T50 l0 x4_1).f1).extract 0 ((mn (((rd_T50 l0 x4_1).f1).size : Int) 100) : Int).toNat⟩ : S50)]) (wrap64 (x4_1 + 1))) else (none)) else (none)) else (none)) = some r := by first | (rw [hjs8] at H; exact H) | (simp only [hjs8] at H ⊢; exact H)
     obtain ⟨ji9, hji9⟩ : ∃ j_ : Int, (mn (((rd_T50 l0 x4_1).f1).size : Int) 100) = j_ := ⟨_, rfl⟩
     replace H : (if 0 ≤ (ji9) then (if (ji9) ≤ (((rd_T50 l0 x4_1).f1).size : Int) then (if x3_1.length < 4398046511104 then (postriderlaw22_short.l0 k1 l0 (x3_1 ++ [(⟨js8, ((rd_T50 l0 x4_1).f1).extract 0 ((ji9) : Int).toNat⟩ : S50)]) (wrap64 (x4_1 + 1))) else (none)) else (none)) else (none)) = some r := by first | (rw [hji9] at H; exact H) | (simp only [hji9] at H ⊢; exact H)
     have hji9_ : (if 100 < (((rd_T50 l0 x4_1).f1).size : Int) then 100 else (((rd_T50 l0 x4_1).f1).size : Int)) = ji9 := hji9
     by_cases c10 : 0 ≤ (ji9)
     rotate_left
     ·rw [if_neg c10] at H
      exact ab H
     rw [if_pos c10] at H
     have c10b0 := eq_true c10
     have c10b1 : decide (0 ≤ (ji9)) = true := decide_eq_true c10
     clear c10
     by_cases c11 : (ji9) ≤ (((rd_T50 l0 x4_1).f1).size : Int)
     rotate_left
     ·rw [if_neg c11] at H
      exact ab H
     rw [if_pos c11] at H
     have c11b0 := eq_true c11
     have c11b1 : decide ((ji9) ≤ (((rd_T50 l0 x4_1).f1).size : Int)) = true := decide_eq_true c11
     clear c11
     obtain ⟨js12, hjs12⟩ : ∃ j_ : ByteArray, (((rd_T50 l0 x4_1).f1).extract 0 ((ji9) : Int).toNat) = j_ := ⟨_, rfl⟩
     replace H : (if x3_1.length < 4398046511104 then (postriderlaw22_short.l0 k1 l0 (x3_1 ++ [(⟨js8, js12⟩ : S50)]) (wrap64 (x4_1 + 1))) else (none)) = some r := by first | (rw [hjs12] at H; exact H) | (simp only [hjs12] at H ⊢; exact H)
     by_cases c13 : x3_1.length < 4398046511104
     rotate_left
     ·rw [if_neg c13] at H
      exact ab H
     rw [if_pos c13] at H
     have LMc13 := Aside0.mk c13
     clear c13
     obtain ⟨y113, hy113⟩ : ∃ y_ : List (S50), y_ = (x3_1 ++ [(⟨js8, js12⟩ : S50)]) := ⟨_, rfl⟩
     replace H : (postriderlaw22_short.l0 k1 l0 y113 (wrap64 (x4_1 + 1))) = some r := by first | (rw [hy113]; with_reducible exact H) | (have H2_ := (Option.bind_some _ _).symm.trans H; rw [hy113]; with_reducible exact H2_) | (have H2_ := (Option.bind_some _ _).symm.trans H; with_reducible exact H2_) | with_reducible exact H | (rw [hy113]; exact H) | exact H
     have Ny113 := Aside0.mk hy113
     clear hy113
     have H' := Aside0.mk H
     clear H
     try go_wp2
     replace HO_3 := Aside0.mk (Kd.R_drew HO_3.out)
     replace HB := Aside0.mk (below_drew1 HB.out)
     have p109 : 0 ≤ (x4_1 : Int) := od
     have q109 : x4_1 < (l0.length : Int) := od
     obtain ⟨ad109, e109, hx109_0, hx109_1⟩ := at_T50 HR0.out x4_1 p109 q109
     have hw109_1 := hx109_1
     have hw109_0 := hx109_0
     cases e109
     replace hx109_0 := (HB.out.cell (World.block_lt_of_cell? w _ hx109_0)).trans hx109_0
     replace hx109_1 := (HB.out.cell (World.block_lt_of_cell? w _ hx109_1)).trans hx109_1
     replace p109 := eq_true p109
     replace q109 := eq_true q109
     have p110 : 0 ≤ (x4_1 : Int) := od
     have q110 : x4_1 < (l0.length : Int) := od
     obtain ⟨ad110, e110, hx110_0, hx110_1⟩ := at_T50 HR0.out x4_1 p110 q110
     have hw110_1 := hx110_1
     have hw110_0 := hx110_0
     obtain rfl : ad109 = ad110 := (by injection e110)
     replace hx110_0 := (HB.out.cell (World.block_lt_of_cell? w _ hx110_0)).trans hx110_0
     replace hx110_1 := (HB.out.cell (World.block_lt_of_cell? w _ hx110_1)).trans hx110_1
     replace p110 := eq_true p110
     replace q110 := eq_true q110
     have p111 : 0 ≤ (x4_1 : Int) := od
     have q111 : x4_1 < (l0.length : Int) := od
     obtain ⟨ad111, e111, hx111_0, hx111_1⟩ := at_T50 HR0.out x4_1 p111 q111
     have hw111_1 := hx111_1
     have hw111_0 := hx111_0
     obtain rfl : ad109 = ad111 := (by injection e111)
     replace hx111_0 := (HB.out.cell (World.block_lt_of_cell? w _ hx111_0)).trans hx111_0
     replace hx111_1 := (HB.out.cell (World.block_lt_of_cell? w _ hx111_1)).trans hx111_1
     replace p111 := eq_true p111
     replace q111 := eq_true q111
     have p112 : 0 ≤ (x4_1 : Int) := od
     have q112 : x4_1 < (l0.length : Int) := od
     obtain ⟨ad112, e112, hx112_0, hx112_1⟩ := at_T50 HR0.out x4_1 p112 q112
     have hw112_1 := hx112_1
     have hw112_0 := hx112_0
     obtain rfl : ad109 = ad112 := (by injection e112)
     replace hx112_0 := (HB.out.cell (World.block_lt_of_cell? w _ hx112_0)).trans hx112_0
     replace hx112_1 := (HB.out.cell (World.block_lt_of_cell? w _ hx112_1)).trans hx112_1
     replace p112 := eq_true p112
     replace q112 := eq_true q112
     refine start_ (n := 31) (S := fun w' => w'.cell? (ad109.add ((x4_1).toNat * 2)) = some (.string ((rd_T50 l0 x4_1).f0)) ∧ w'.cell? ⟨(ad109.add ((x4_1).toNat * 2)).block, (ad109.add ((x4_1).toNat * 2)).off + 1, none⟩ = some (.string ((rd_T50 l0 x4_1).f1)) ∧ w'.cell? (ad109.add ((x4_1).toNat * 2)) = some (.string ((rd_T50 l0 x4_1).f0)) ∧ w'.cell? ⟨(ad109.add ((x4_1).toNat * 2)).block, (ad109.add ((x4_1).toNat * 2)).off + 1, none⟩ = some (.string ((rd_T50 l0 x4_1).f1)) ∧ w'.cell? (ad109.add ((x4_1).toNat * 2)) = some (.string ((rd_T50 l0 x4_1).f0)) ∧ w'.cell? ⟨(ad109.add ((x4_1).toNat * 2)).block, (ad109.add ((x4_1).toNat * 2)).off + 1, none⟩ = some (.string ((rd_T50 l0 x4_1).f1)) ∧ w'.cell? (ad109.add ((x4_1).toNat * 2)) = some (.string ((rd_T50 l0 x4_1).f0)) ∧ w'.cell? ⟨(ad109.add ((x4_1).toNat * 2)).block, (ad109.add ((x4_1).toNat * 2)).off + 1, none⟩ = some (.string ((rd_T50 l0 x4_1).f1))) (ds := []) #[false, false, false, false, false, false, false, false, false, false, false, false, false, false, false, false, false, false, false, false, false, false, false, false, false, false, false, false, false, false, false] kf rfl rfl ⟨((HB.out.cell (World.block_lt_of_cell? w _ hw109_0)).trans hw109_0), ((HB.out.cell (World.block_lt_of_cell? w _ hw109_1)).trans hw109_1), ((HB.out.cell (World.block_lt_of_cell? w _ hw110_0)).trans hw110_0), ((HB.out.cell (World.block_lt_of_cell? w _ hw110_1)).trans hw110_1), ((HB.out.cell (World.block_lt_of_cell? w _ hw111_0)).trans hw111_0), ((HB.out.cell (World.block_lt_of_cell? w _ hw111_1)).trans hw111_1), ((HB.out.cell (World.block_lt_of_cell? w _ hw112_0)).trans hw112_0), ((HB.out.cell (World.block_lt_of_cell? w _ hw112_1)).trans hw112_1)⟩ (fun hHeld => ?_); refine with_tabW postriderlaw22_short.tab5 postriderlaw22_short.bits5 (fun HT_ HW_ => ?_)
     generalize wr.drew = w14 at HO_3 HB hx109_0 hx109_1 hx110_0 hx110_1 hx111_0 hx111_1 hx112_0 hx112_1 hHeld ⊢
     refine pure_ (i := 0) (N := some 15) (v := ?_) (a' := ?_) #[true, false, false, false, false, false, false, false, false, false, false, false, false, false, false, false, false, false, false, false, false, false, false, false, false, false, false, false, false, false, false] rfl rfl (any_of HT_.out kf) (fun _ _ _ h => h) (Or.inl ⟨by rfl, ?_⟩) ?_ ?_
     rotate_left
     ·intro w'
      go_simp
      with_reducible rfl
     rotate_left
     ·simp only [Act.put, sA, sB, sC, i64_w, i32_w]
      rfl
     refine pure_ (i := 1) (N := some 16) (v := ?_) (a' := ?_) #[true, true, false, false, false, false, false, false, false, false, false, false, false, false, false, false, false, false, false, false, false, false, false, false, false, false, false, false, false, false, false] rfl rfl (any_of HT_.out kf) (fun _ _ _ h => h) (Or.inl ⟨by rfl, ?_⟩) ?_ ?_
     rotate_left
     ·intro w'
      go_simp
      with_reducible rfl
     rotate_left
     ·simp only [Act.put, sA, sB, sC, i64_w, i32_w]
      rfl
     refine pure_ (i := 2) (N := some 17) (v := ?_) (a' := ?_) #[true, true, true, false, false, false, false, false, false, false, false, false, false, false, false, false, false, false, false, false, false, false, false, false, false, false, false, false, false, false, false] rfl rfl (any_of HT_.out kf) (fun _ _ _ h => h) (Or.inl ⟨by rfl, ?_⟩) ?_ ?_
     rotate_left
     ·intro w'
      go_simp
      with_reducible rfl
     rotate_left
     ·simp only [Act.put, sA, sB, sC, i64_w, i32_w]
      rfl
     refine pure_ (i := 3) (N := some 18) (v := ?_) (a' := ?_) #[true, true, true, true, false, false, false, false, false, false, false, false, false, false, false, false, false, false, false, false, false, false, false, false, false, false, false, false, false, false, false] rfl rfl (any_of HT_.out kf) (fun _ _ _ h => h) (Or.inl ⟨by rfl, ?_⟩) ?_ ?_
     rotate_left
     ·intro w'
      go_simp
      with_reducible rfl
     rotate_left
     ·simp only [Act.put, sA, sB, sC, i64_w, i32_w]
      rfl
     refine pure_ (i := 4) (N := some 19) (v := ?_) (a' := ?_) #[true, true, true, true, true, false, false, false, false, false, false, false, false, false, false, false, false, false, false, false, false, false, false, false, false, false, false, false, false, false, false] rfl rfl (any_of HT_.out kf) (fun _ _ _ h => h) (Or.inl ⟨by rfl, ?_⟩) ?_ ?_
     rotate_left
     ·intro w'
      go_simp
      with_reducible rfl
     rotate_left
     ·simp only [Act.put, sA, sB, sC, i64_w, i32_w]
      rfl
     refine pure_ (i := 6) (N := some 21) (v := ?_) (a' := ?_) #[true, true, true, true, true, false, true, false, false, false, false, false, false, false, false, false, false, false, false, false, false, false, false, false, false, false, false, false, false, false, false] rfl rfl (any_of HT_.out kf) (fun _ _ _ h => h) (Or.inl ⟨by rfl, ?_⟩) ?_ ?_
     rotate_left
     ·intro w'
      go_simp
      with_reducible rfl
     rotate_left
     ·simp only [Act.put, sA, sB, sC, i64_w, i32_w]
      rfl
     refine pure_ (i := 7) (N := some 22) (v := ?_) (a' := ?_) #[true, true, true, true, true, false, true, true, false, false, false, false, false, false, false, false, false, false, false, false, false, false, false, false, false, false, false, false, false, false, false] rfl rfl (any_of HT_.out kf) (fun _ _ _ h => h) (Or.inl ⟨by rfl, ?_⟩) ?_ ?_
     rotate_left
     ·intro w'
      go_simp
      with_reducible rfl
     rotate_left
     ·simp only [Act.put, sA, sB, sC, i64_w, i32_w]
      rfl
     refine pure_ (i := 8) (N := some 23) (v := ?_) (a' := ?_) #[true, true, true, true, true, false, true, true, true, false, false, false, false, false, false, false, false, false, false, false, false, false, false, false, false, false, false, false, false, false, false] rfl rfl (any_of HT_.out kf) (fun _ _ _ h => h) (Or.inl ⟨by rfl, ?_⟩) ?_ ?_
     rotate_left
     ·intro w'
      go_simp
      with_reducible rfl
     rotate_left
     ·simp only [Act.put, sA, sB, sC, i64_w, i32_w]
      rfl
     refine pure_ (i := 9) (N := some 24) (v := ?_) (a' := ?_) #[true, true, true, true, true, false, true, true, true, true, false, false, false, false, false, false, false, false, false, false, false, false, false, false, false, false, false, false, false, false, false] rfl rfl (any_of HT_.out kf) (fun _ _ _ h => h) (Or.inl ⟨by rfl, ?_⟩) ?_ ?_
     rotate_left
     ·intro w'
      go_simp
      with_reducible rfl
     rotate_left
     ·simp only [Act.put, sA, sB, sC, i64_w, i32_w]
      rfl
     refine pure_ (i := 14) (N := some 29) (v := ?_) (a' := ?_) #[true, true, true, true, true, false, true, true, true, true, false, false, false, false, true, false, false, false, false, false, false, false, false, false, false, false, false, false, false, false, false] rfl rfl (any_of HT_.out kf) (fun _ _ _ h => h) (Or.inl ⟨by rfl, ?_⟩) ?_ ?_
     rotate_left
     ·intro w'
      go_simp
      with_reducible rfl
     rotate_left
     ·simp only [Act.put, sA, sB, sC, i64_w, i32_w]
      rfl
     refine pure_ (i := 15) (N := some 30) (v := ?_) (a' := ?_) #[true, true, true, true, true, false, true, true, true, true, false, false, false, false, true, true, false, false, false, false, false, false, false, false, false, false, false, false, false, false, false] rfl rfl (any_of HT_.out kf) (fun _ _ _ h => h) (Or.inl ⟨by rfl, ?_⟩) ?_ ?_
     rotate_left
     ·intro w'
      go_simp
      with_reducible rfl
     rotate_left
     ·simp only [Act.put, sA, sB, sC, i64_w, i32_w]
      rfl
     refine pure_ (i := 16) (N := some 31) (v := ?_) (a' := ?_) #[true, true, true, true, true, false, true, true, true, true, false, false, false, false, true, true, true, false, false, false, false, false, false, false, false, false, false, false, false, false, false] rfl rfl (any_of HT_.out kf) (fun _ _ _ h => h) (Or.inl ⟨by rfl, ?_⟩) ?_ ?_
     rotate_left
     ·intro w'
      go_simp
      with_reducible rfl
     rotate_left
     ·simp only [Act.put, sA, sB, sC, i64_w, i32_w]
      rfl
     refine pure_ (i := 17) (N := some 32) (v := ?_) (a' := ?_) #[true, true, true, true, true, false, true, true, true, true, false, false, false, false, true, true, true, true, false, false, false, false, false, false, false, false, false, false, false, false, false] rfl rfl (any_of HT_.out kf) (fun _ _ _ h => h) (Or.inl ⟨by rfl, ?_⟩) ?_ ?_
     rotate_left
     ·intro w'
      go_simp
      with_reducible rfl
     rotate_left
     ·simp only [Act.put, sA, sB, sC, i64_w, i32_w]
      rfl
     refine pure_ (i := 19) (N := some 34) (v := ?_) (a' := ?_) #[true, true, true, true, true, false, true, true, true, true, false, false, false, false, true, true, true, true, false, true, false, false, false, false, false, false, false, false, false, false, false] rfl rfl (any_of HT_.out kf) (fun _ _ _ h => h) (Or.inl ⟨by rfl, ?_⟩) ?_ ?_
     rotate_left
     ·intro w'
      go_simp
      with_reducible rfl
     rotate_left
     ·simp only [Act.put, sA, sB, sC, i64_w, i32_w]
      rfl
     refine pure_ (i := 20) (N := some 35) (v := ?_) (a' := ?_) #[true, true, true, true, true, false, true, true, true, true, false, false, false, false, true, true, true, true, false, true, true, false, false, false, false, false, false, false, false, false, false] rfl rfl (any_of HT_.out kf) (fun _ _ _ h => h) (Or.inl ⟨by rfl, ?_⟩) ?_ ?_
     rotate_left
     ·intro w'
      go_simp
      with_reducible rfl
     rotate_left
     ·simp only [Act.put, sA, sB, sC, i64_w, i32_w]
      rfl
     refine pure_ (i := 21) (N := some 36) (v := ?_) (a' := ?_) #[true, true, true, true, true, false, true, true, true, true, false, false, false, false, true, true, true, true, false, true, true, true, false, false, false, false, false, false, false, false, false] rfl rfl (any_of HT_.out kf) (fun _ _ _ h => h) (Or.inl ⟨by rfl, ?_⟩) ?_ ?_
     rotate_left
     ·intro w'
      go_simp
      with_reducible rfl
     rotate_left
     ·simp only [Act.put, sA, sB, sC, i64_w, i32_w]
      rfl
     refine pure_ (i := 22) (N := some 37) (v := ?_) (a' := ?_) #[true, true, true, true, true, false, true, true, true, true, false, false, false, false, true, true, true, true, false, true, true, true, true, false, false, false, false, false, false, false, false] rfl rfl (any_of HT_.out kf) (fun _ _ _ h => h) (Or.inl ⟨by rfl, ?_⟩) ?_ ?_
     rotate_left
     ·intro w'
      go_simp
      with_reducible rfl
     rotate_left
     ·simp only [Act.put, sA, sB, sC, i64_w, i32_w]
      rfl
     refine take_ (i := 5) (N := some 20) (v := ?_) (a' := ?_) #[true, true, true, true, true, true, true, true, true, true, false, false, false, false, true, true, true, true, false, true, true, true, true, false, false, false, false, false, false, false, false] rfl rfl (take_ofW HT_.out HW_.out kf) (fun _ _ _ h => h) (Or.inl ⟨by rfl, ?_⟩) hHeld ?_ ?_
     rotate_left
     ·rintro w' ⟨s0, s1, s2, s3, s4, s5, s6, s7⟩
      go_simp
      with_reducible rfl
     rotate_left
     ·simp only [Act.put, sA, sB, sC, i64_w, i32_w]
      rfl
     refine take_ (i := 10) (N := some 25) (v := ?_) (a' := ?_) #[true, true, true, true, true, true, true, true, true, true, true, false, false, false, true, true, true, true, false, true, true, true, true, false, false, false, false, false, false, false, false] rfl rfl (take_ofW HT_.out HW_.out kf) (fun _ _ _ h => h) (Or.inl ⟨by rfl, ?_⟩) hHeld ?_ ?_
     rotate_left
     ·rintro w' ⟨s0, s1, s2, s3, s4, s5, s6, s7⟩
      go_simp
      with_reducible rfl
     rotate_left
     ·simp only [Act.put, sA, sB, sC, i64_w, i32_w]
      rfl
     refine pure_ (i := 11) (N := some 26) (v := ?_) (a' := ?_) #[true, true, true, true, true, true, true, true, true, true, true, true, false, false, true, true, true, true, false, true, true, true, true, false, false, false, false, false, false, false, false] rfl rfl (any_of HT_.out kf) (fun _ _ _ h => h) (Or.inl ⟨by rfl, ?_⟩) ?_ ?_
     rotate_left
     ·intro w'
      go_simp
      with_reducible rfl
     rotate_left
     ·simp only [Act.put, sA, sB, sC, i64_w, i32_w]
      rfl
     refine pure_ (i := 12) (N := some 27) (v := ?_) (a' := ?_) #[true, true, true, true, true, true, true, true, true, true, true, true, true, false, true, true, true, true, false, true, true, true, true, false, false, false, false, false, false, false, false] rfl rfl (any_of HT_.out kf) (fun _ _ _ h => h) (Or.inl ⟨by rfl, ?_⟩) ?_ ?_
     rotate_left
     ·intro w'
      go_simp
      with_reducible rfl
     rotate_left
     ·simp only [Act.put, sA, sB, sC, i64_w, i32_w]
      rfl
     refine pure_ (i := 13) (N := some 28) (v := ?_) (a' := ?_) #[true, true, true, true, true, true, true, true, true, true, true, true, true, true, true, true, true, true, false, true, true, true, true, false, false, false, false, false, false, false, false] rfl rfl (any_of HT_.out kf) (fun _ _ _ h => h) (Or.inl ⟨by rfl, ?_⟩) ?_ ?_
     rotate_left
     ·intro w'
      go_simp
      with_reducible rfl
     rotate_left
     ·simp only [Act.put, sA, sB, sC, i64_w, i32_w]
      rfl
     refine take_ (i := 18) (N := some 33) (v := ?_) (a' := ?_) #[true, true, true, true, true, true, true, true, true, true, true, true, true, true, true, true, true, true, true, true, true, true, true, false, false, false, false, false, false, false, false] rfl rfl (take_ofW HT_.out HW_.out kf) (fun _ _ _ h => h) (Or.inl ⟨by rfl, ?_⟩) hHeld ?_ ?_
     rotate_left
     ·rintro w' ⟨s0, s1, s2, s3, s4, s5, s6, s7⟩
      go_simp
      with_reducible rfl
     rotate_left
     ·simp only [Act.put, sA, sB, sC, i64_w, i32_w]
      rfl
     refine take_ (i := 23) (N := some 38) (v := ?_) (a' := ?_) #[true, true, true, true, true, true, true, true, true, true, true, true, true, true, true, true, true, true, true, true, true, true, true, true, false, false, false, false, false, false, false] rfl rfl (take_ofW HT_.out HW_.out kf) (fun _ _ _ h => h) (Or.inl ⟨by rfl, ?_⟩) hHeld ?_ ?_
     rotate_left
     ·rintro w' ⟨s0, s1, s2, s3, s4, s5, s6, s7⟩
      go_simp
      with_reducible rfl
     rotate_left
     ·simp only [Act.put, sA, sB, sC, i64_w, i32_w]
      rfl
     refine pure_ (i := 24) (N := some 39) (v := ?_) (a' := ?_) #[true, true, true, true, true, true, true, true, true, true, true, true, true, true, true, true, true, true, true, true, true, true, true, true, true, false, false, false, false, false, false] rfl rfl (any_of HT_.out kf) (fun _ _ _ h => h) (Or.inl ⟨by rfl, ?_⟩) ?_ ?_
     rotate_left
     ·intro w'
      go_simp
      with_reducible rfl
     rotate_left
     ·simp only [Act.put, sA, sB, sC, i64_w, i32_w]
      rfl
     refine pure_ (i := 25) (N := some 40) (v := ?_) (a' := ?_) #[true, true, true, true, true, true, true, true, true, true, true, true, true, true, true, true, true, true, true, true, true, true, true, true, true, true, false, false, false, false, false] rfl rfl (any_of HT_.out kf) (fun _ _ _ h => h) (Or.inl ⟨by rfl, ?_⟩) ?_ ?_
     rotate_left
     ·intro w'
      go_simp
      with_reducible rfl
     rotate_left
     ·simp only [Act.put, sA, sB, sC, i64_w, i32_w]
      rfl
     refine pure_ (i := 26) (N := some 41) (v := ?_) (a' := ?_) #[true, true, true, true, true, true, true, true, true, true, true, true, true, true, true, true, true, true, true, true, true, true, true, true, true, true, true, false, false, false, false] rfl rfl (any_of HT_.out kf) (fun _ _ _ h => h) (Or.inl ⟨by rfl, ?_⟩) ?_ ?_
     rotate_left
     ·intro w'
      go_simp
      with_reducible rfl
     rotate_left
     ·simp only [Act.put, sA, sB, sC, i64_w, i32_w]
      rfl
     refine pure_ (i := 27) (N := some 42) (v := ?_) (a' := ?_) #[true, true, true, true, true, true, true, true, true, true, true, true, true, true, true, true, true, true, true, true, true, true, true, true, true, true, true, true, false, false, false] rfl rfl (any_of HT_.out kf) (fun _ _ _ h => h) (Or.inl ⟨by rfl, ?_⟩) ?_ ?_
     rotate_left
     ·intro w'
      go_simp
      with_reducible rfl
     rotate_left
     ·simp only [Act.put, sA, sB, sC, i64_w, i32_w]
      rfl
     refine one_ (i := 28) (N := some 43) #[true, true, true, true, true, true, true, true, true, true, true, true, true, true, true, true, true, true, true, true, true, true, true, true, true, true, true, true, true, false, false] rfl rfl (one_of HT_.out kf) (by decide) (fun K hK => ?_)
     refine value_ (w1 := ?_) (v := ?_) (by rfl) rfl ?_ ?_
     rotate_left 2
     ·go_simp
      constructor
      ·rfl
      ·rfl
     refine hK.out _ _ ⟨(World.cell?_alloc_lt _ _ _ (World.block_lt_of_cell? _ _ (((HB.out.cell (World.block_lt_of_cell? w _ hw109_0)).trans hw109_0)))).trans (((HB.out.cell (World.block_lt_of_cell? w _ hw109_0)).trans hw109_0)), (World.cell?_alloc_lt _ _ _ (World.block_lt_of_cell? _ _ (((HB.out.cell (World.block_lt_of_cell? w _ hw109_1)).trans hw109_1)))).trans (((HB.out.cell (World.block_lt_of_cell? w _ hw109_1)).trans hw109_1)), (World.cell?_alloc_lt _ _ _ (World.block_lt_of_cell? _ _ (((HB.out.cell (World.block_lt_of_cell? w _ hw110_0)).trans hw110_0)))).trans (((HB.out.cell (World.block_lt_of_cell? w _ hw110_0)).trans hw110_0)), (World.cell?_alloc_lt _ _ _ (World.block_lt_of_cell? _ _ (((HB.out.cell (World.block_lt_of_cell? w _ hw110_1)).trans hw110_1)))).trans (((HB.out.cell (World.block_lt_of_cell? w _ hw110_1)).trans hw110_1)), (World.cell?_alloc_lt _ _ _ (World.block_lt_of_cell? _ _ (((HB.out.cell (World.block_lt_of_cell? w _ hw111_0)).trans hw111_0)))).trans (((HB.out.cell (World.block_lt_of_cell? w _ hw111_0)).trans hw111_0)), (World.cell?_alloc_lt _ _ _ (World.block_lt_of_cell? _ _ (((HB.out.cell (World.block_lt_of_cell? w _ hw111_1)).trans hw111_1)))).trans (((HB.out.cell (World.block_lt_of_cell? w _ hw111_1)).trans hw111_1)), (World.cell?_alloc_lt _ _ _ (World.block_lt_of_cell? _ _ (((HB.out.cell (World.block_lt_of_cell? w _ hw112_0)).trans hw112_0)))).trans (((HB.out.cell (World.block_lt_of_cell? w _ hw112_0)).trans hw112_0)), (World.cell?_alloc_lt _ _ _ (World.block_lt_of_cell? _ _ (((HB.out.cell (World.block_lt_of_cell? w _ hw112_1)).trans hw112_1)))).trans (((HB.out.cell (World.block_lt_of_cell? w _ hw112_1)).trans hw112_1))⟩ (fun hHeld => ?_)
     clear hK K
     refine norm_ (a' := ?_) ?_ ?_
     rotate_left
     ·show Act.put _ (some 43) _ = _
      simp only [Act.put, sA, sB, sC, i64_w, i32_w]
      rfl
     refine one_ (i := 29) (N := some 44) #[true, true, true, true, true, true, true, true, true, true, true, true, true, true, true, true, true, true, true, true, true, true, true, true, true, true, true, true, true, true, false] rfl rfl (one_of HT_.out kf) (by decide) (fun K hK => ?_)
     refine Kd.R_append_step k50 (w0 := w) w.heap.size (by rfl) (.tmp 15) (.tmp 43) 25 50 (.agg #[(.string ⟨#[]⟩), (.string ⟨#[]⟩)]) 32 rfl Tryz.underlying25 info50 rfl (by decide) (by omega) u3 x3_1 (⟨js8, js12⟩ : S50) [.string js8, .string js12] (fun _ => True) (fun _ => False) rfl rfl ?aP (fun _ hk => hk.elim) ?aF ?aO ?aB ?aS ?aL ?_
     (case aP => exact k50_mkM _ _ _ (⟨js8, js12⟩ : S50))
     (case aB => exact bl)
     (case aF => exact (fun _ _ => trivial))
     (case aO => exact (kr HO_3.out))
     (case aS => exact (below_size bl))
     (case aL => have := LMc13.out; omega)
     intro v114 w15 ho hb hg hat
     rw [← Ny113.out] at ho
     replace HB := Aside0.mk (hb)
     have HO115 := Aside0.mk (ho)
     clear HO_3 ho hb hg hat
     refine hK.out _ _ ⟨((HB.out.cell (World.block_lt_of_cell? w _ hw109_0)).trans hw109_0), ((HB.out.cell (World.block_lt_of_cell? w _ hw109_1)).trans hw109_1), ((HB.out.cell (World.block_lt_of_cell? w _ hw110_0)).trans hw110_0), ((HB.out.cell (World.block_lt_of_cell? w _ hw110_1)).trans hw110_1), ((HB.out.cell (World.block_lt_of_cell? w _ hw111_0)).trans hw111_0), ((HB.out.cell (World.block_lt_of_cell? w _ hw111_1)).trans hw111_1), ((HB.out.cell (World.block_lt_of_cell? w _ hw112_0)).trans hw112_0), ((HB.out.cell (World.block_lt_of_cell? w _ hw112_1)).trans hw112_1)⟩ (fun hHeld => ?_)
     clear hK K
     refine norm_ (a' := ?_) ?_ ?_
     rotate_left
     ·show Act.put _ (some 44) _ = _
      simp only [Act.put, sA, sB, sC, i64_w, i32_w]
      rfl
     refine pure_ (i := 30) (N := some 3) (v := ?_) (a' := ?_) #[true, true, true, true, true, true, true, true, true, true, true, true, true, true, true, true, true, true, true, true, true, true, true, true, true, true, true, true, true, true, true] rfl rfl (any_of HT_.out kf) (fun _ _ _ h => h) (Or.inl ⟨by rfl, ?_⟩) ?_ ?_
     rotate_left
     ·intro w'
      go_simp
      with_reducible rfl
     rotate_left
     ·simp only [Act.put, sA, sB, sC, i64_w, i32_w]
      rfl
     refine done_ (done_of HT_.out kf) ?_
     try go_wp2
     go_roundg k1
     case measure => have := HK1.out; omega
     case rel => exact ⟨(y113), (wrap64 (x4_1 + 1)), rs, H', ⟨by have := HK1.out; omega⟩, ⟨kr HO115.out⟩, ⟨bl⟩⟩
    ·rw [if_neg c3] at H
     have c3b0 : decide (x4_1 < 20) = false := decide_eq_false c3
     clear c3
     obtain rfl := Option.some.inj H
     go_wp2
     go_ret
     exact ⟨_, by first | rfl | (simp [errW_none, errW_some] <;> rfl) | (simp [*, errW_none, errW_some] <;> rfl), kr HO_3.out, bl⟩
   ·rw [if_neg c2] at H
    have c2b0 : decide (x4_1 < (l0.length : Int)) = false := decide_eq_false c2
    clear c2
    obtain rfl := Option.some.inj H
    go_wp2
    go_ret
    exact ⟨_, by first | rfl | (simp [errW_none, errW_some] <;> rfl) | (simp [*, errW_none, errW_some] <;> rfl), kr HO_3.out, bl⟩

/-! ### postriderlaw18_Of: function 10 -/
def postriderlaw18_Of.l0 : Nat → Int → List (S72) → ByteArray → Bool → List (S79) → ByteArray → Bool → Option ((List (S79)) × ByteArray × Bool)
 | 0, _, _, _, _, _, _, _ => none
 | k + 1, x4, x117000, x117001, x117002, x119000, x119001, x119002 => if x4 < (x117000.length : Int) then (if 0 ≤ x4 then (if x119000.length < 2932031007402 then (postriderlaw18_Of.l0 k (wrap64 (x4 + 1)) x117000 x117001 x117002 (x119000 ++ [(⟨(rd_T72 x117000 x4).f0, (rd_T72 x117000 x4).f1, (rd_T72 x117000 x4).f2⟩ : S79)]) x119001 x119002) else (none)) else (none)) else (some (x119000, x119001, x119002))
def postriderlaw18_Of.f (k : Nat) (l0_0 : List (S72)) (a0_1 : ByteArray) (a0_2 : Bool) : Option ((List (S79)) × ByteArray × Bool) := postriderlaw18_Of.l0 k 0 l0_0 a0_1 a0_2 ([] : List (S79)) a0_1 a0_2
theorem postriderlaw18_Of.mono_l : ∀ k, (∀ y0 y1 y2 y3 y4 y5 y6, LeO (postriderlaw18_Of.l0 k y0 y1 y2 y3 y4 y5 y6) (postriderlaw18_Of.l0 (k + 1) y0 y1 y2 y3 y4 y5 y6))
 | 0 => fun _ _ _ _ _ _ _ r h => by simp [postriderlaw18_Of.l0] at h
 | k + 1 => by
  have ih0 := postriderlaw18_Of.mono_l k
  ·intro y0 y1 y2 y3 y4 y5 y6
   unfold postriderlaw18_Of.l0
   repeat' first
   | (with_reducible first | exact ih0 _ _ _ _ _ _ _ | exact LeO.refl _ | exact LeO.none _ | refine LeO.ite ?_ ?_ | refine LeO.bind ?_ (fun _ => ?_))
theorem postriderlaw18_Of.mono : ∀ a0 a1 a2 k, LeO (postriderlaw18_Of.f k a0 a1 a2) (postriderlaw18_Of.f (k + 1) a0 a1 a2) := by
 intro a0 a1 a2 k
 have ih0 := postriderlaw18_Of.mono_l k
 unfold postriderlaw18_Of.f
 repeat' first
   | (with_reducible first | exact ih0 _ _ _ _ _ _ _ | exact LeO.refl _ | exact LeO.none _ | refine LeO.ite ?_ ?_ | refine LeO.bind ?_ (fun _ => ?_))
def postriderlaw18_Of.T5 : Bool × List (List Nat × List Nat) := (true, [([], []), ([0], [0]), ([], []), ([2], [2]), ([], []), ([3, 4], [3, 4]), ([5], [5]), ([6], [6]), ([1, 7], [1, 7]), ([0, 1, 2, 3, 4, 5, 6, 7, 8], []), ([9, 8, 8, 0, 1, 2, 3, 4, 5, 6, 7, 8], [8, 9])])
def postriderlaw18_Of.B5 : List Nat := [0, 1, 0, 4, 0, 28, 60, 124, 255, 511, 1023]
theorem postriderlaw18_Of.tab5 : rtab .any (opsOf Tryz.f10 5) = postriderlaw18_Of.T5 := by kernel_rfl
theorem postriderlaw18_Of.bits5 : waitsOk postriderlaw18_Of.T5.2 postriderlaw18_Of.B5 = true := by kernel_rfl
theorem postriderlaw18_Of.calls (k : Nat) (A0_0 : Option Addr) (c0_0 : Nat) (l0_0 : List (S72)) (a0_1 : ByteArray) (a0_2 : Bool) (r1 : List (S79)) (r2 : ByteArray) (r3 : Bool) (w : World) (hr0_0 : Kd.C k72 w A0_0 l0_0.length l0_0) (hc0_0 : l0_0.length ≤ c0_0) (h : postriderlaw18_Of.f k l0_0 a0_1 a0_2 = some (r1, r2, r3)) :
  Calls Tryz.prog 10 #[.agg #[.slice A0_0 l0_0.length c0_0, .string a0_1, .bool a0_2]] w fun e w' => ∃ v0_ : Value, e = .returned (.agg #[v0_, .string r2, .bool r3]) ∧ Kd.R k79 79 w' w.heap.size (fun _ => True) v0_ r1 ∧ Below w.heap.size w w' := by
 have hu24 := Tryz.underlying24
 have hu30 := Tryz.underlying30
 have hu72 := Tryz.underlying72
 have HR0_0 := Aside0.mk hr0_0
 have HC0_0 := Aside0.mk hc0_0
 clear hr0_0 hc0_0
 have HB := Aside0.mk (Below.refl w.heap.size w)
 have H : (postriderlaw18_Of.l0 k 0 l0_0 a0_1 a0_2 ([] : List (S79)) a0_1 a0_2) = some (r1, r2, r3) := h
 clear h
 have H' := Aside0.mk H
 clear H
 go_enter Tryz.func10, Tryz.ntmps10
 go_wp2_with (first | ((with_reducible refine gate_dst (N := 1) rfl ?_); refine box_event ?hg (N := 1) ?hd (cs := #[.slice A0_0 l0_0.length c0_0, .string a0_1, .bool a0_2]) (t := 24) ?hr ?_; (case hd => rfl); (case hg => rfl); (case hr => first | (go_simp; done) | (go_simp; rfl)); intro gb116 hg w2 hbox hb; have BK116 := Aside0.mk (hbox); have GW116 := Aside0.mk (gz hg : w.heap.size ≤ gb116); have GE116 := Aside0.mk (gz hg : w.heap.size ≤ gb116); replace HB := Aside0.mk (below_step bl hb); clear hb hbox hg) | ((with_reducible refine gate_dst (N := 2) rfl ?_); refine box_event ?hg (N := 2) ?hd (cs := #[.slice none 0 0, .string (⟨#[]⟩ : ByteArray), .bool false]) (t := 30) ?hr ?_; (case hd => rfl); (case hg => rfl); (case hr => first | (go_simp; done) | (go_simp; rfl)); intro gb117 hg w3 hbox hb; have BK117 := Aside0.mk (hbox); have GW117 := Aside0.mk (gz hg : w.heap.size ≤ gb117); have GE117 := Aside0.mk (gz hg : w.heap.size ≤ gb117); replace HB := Aside0.mk (below_step bl hb); have NB116_117 := Aside0.mk (nl hg BK116.out : gb116 ≠ gb117); have NB117_116 := Aside0.mk (ng hg BK116.out : gb117 ≠ gb116); replace BK116 := Aside0.mk (kb BK116.out hb); clear hb hbox hg; have hnb4 := NB116_117.out; have hnc4 := NB117_116.out; have hcz5_0 := cz BK116.out 0 (.slice A0_0 l0_0.length c0_0); have hcz5_1 := cz BK116.out 1 (.string a0_1); have hcz5_2 := cz BK116.out 2 (.bool a0_2); have hfz5_0 := blk_frozen BK116.out 0; have hfz5_1 := blk_frozen BK116.out 1; have hfz5_2 := blk_frozen BK116.out 2) | ((with_reducible refine gate_dst (N := 3) rfl ?_); refine box_event ?hg (N := 3) ?hd (cs := #[.slice none 0 0, .string (⟨#[]⟩ : ByteArray), .bool false]) (t := 30) ?hr ?_; (case hd => rfl); (case hg => rfl); (case hr => first | (go_simp; done) | (go_simp; rfl)); intro gb118 hg w6 hbox hb; have BK118 := Aside0.mk (hbox); have GW118 := Aside0.mk (gz hg : w.heap.size ≤ gb118); have GE118 := Aside0.mk (gz hg : w.heap.size ≤ gb118); replace HB := Aside0.mk (below_step bl hb); have NB116_118 := Aside0.mk (nl hg BK116.out : gb116 ≠ gb118); have NB118_116 := Aside0.mk (ng hg BK116.out : gb118 ≠ gb116); replace BK116 := Aside0.mk (kb BK116.out hb); have NB117_118 := Aside0.mk (nl hg BK117.out : gb117 ≠ gb118); have NB118_117 := Aside0.mk (ng hg BK117.out : gb118 ≠ gb117); replace BK117 := Aside0.mk (kb BK117.out hb); clear hb hbox hg; have hnb7 := NB118_116.out; have hnc7 := NB116_118.out; have hnb8 := NB118_117.out; have hnc8 := NB117_118.out; have hcz9_0 := cz BK118.out 0 (.slice none 0 0); have hcz9_1 := cz BK118.out 1 (.string (⟨#[]⟩ : ByteArray)); have hcz9_2 := cz BK118.out 2 (.bool false); have hfz9_0 := blk_frozen BK118.out 0; have hfz9_1 := blk_frozen BK118.out 1; have hfz9_2 := blk_frozen BK118.out 2))
 go_loopg [4] k (fun kq v4 w' => ∃ (x4_1 : Int) (x119000_1 : List (S79)) (u119000 : Value), v4 = .int .i64 x4_1 ∧ Aside0 (postriderlaw18_Of.l0 kq x4_1 l0_0 a0_1 a0_2 x119000_1 a0_1 a0_2 = some (r1, r2, r3)) ∧ Aside0 (kq ≤ k) ∧ Aside0 (Kd.R k79 79 w' w.heap.size (fun _ => True) u119000 x119000_1) ∧ Aside0 (w'.heap[gb116]? = some (.cells #[(.slice A0_0 l0_0.length c0_0), .string a0_1, .bool a0_2] 24 (0, 0))) ∧ Aside0 (w'.heap[gb117]? = some (.cells #[(.slice none 0 0), .string (⟨#[]⟩ : ByteArray), .bool false] 30 (0, 0))) ∧ Aside0 (w'.heap[gb118]? = some (.cells #[u119000, .string a0_1, .bool a0_2] 30 (0, 0))) ∧ Aside0 (Below w.heap.size w w'))
 case atStart => exact ⟨(0), (([] : List (S79))), (.slice none 0 0), rs, H', ⟨Nat.le_refl _⟩, ⟨by first | exact Kd.R_nil _ _ _ _ _ | exact Kd.N_nil _ _ _ _ _ | exact Kd.V_nil _ _ _ _ _ | exact Kd.Q_nil _ _ _ _ _ | exact Kd.S_nil _ _ _ _ _⟩, ⟨bk BK116.out⟩, ⟨bk BK117.out⟩, ⟨by (with_reducible repeat (first | refine blk_drewN ?_ _ | refine blk_drew ?_ | refine blk_alloc ?_ _)); refine blk_put (cs := #[.slice none 0 0, .string a0_1, .bool false]) ?_ 2 _ rfl; (with_reducible repeat (first | refine blk_drewN ?_ _ | refine blk_drew ?_ | refine blk_alloc ?_ _)); refine blk_put (cs := #[.slice none 0 0, .string (⟨#[]⟩ : ByteArray), .bool false]) ?_ 1 _ rfl; (with_reducible repeat (first | refine blk_drewN ?_ _ | refine blk_drew ?_ | refine blk_alloc ?_ _)); refine blk_put (cs := #[.slice none 0 0, .string (⟨#[]⟩ : ByteArray), .bool false]) ?_ 0 _ rfl; (with_reducible repeat (first | refine blk_drewN ?_ _ | refine blk_drew ?_ | refine blk_alloc ?_ _)); exact BK118.out⟩, ⟨bl⟩⟩
 case round =>
  clear H'
  try clear c1
  try clear p2
  try clear c4
  try clear c7
  try clear c8
  try clear hcz5_0
  try clear hcz5_1
  try clear hcz5_2
  try clear hcz9_0
  try clear hcz9_1
  try clear hcz9_2
  try clear hfz5_0
  try clear hfz5_1
  try clear hfz5_2
  try clear hfz9_0
  try clear hfz9_1
  try clear hfz9_2
  obtain ⟨x4_1, x119000_1, u119000, rfl, HA, HK1, HO_119000, BK116, BK117, BK118, HB⟩ := hrel
  cases gk with
  | zero => exact absurd HA.out (by simp [postriderlaw18_Of.l0])
  | succ k1 =>
   have H := HA.out
   clear HA
   simp only [postriderlaw18_Of.l0] at H
   by_cases c10 : x4_1 < (l0_0.length : Int)
   ·rw [if_pos c10] at H
    have c10b0 : decide (x4_1 < (l0_0.length : Int)) = true := decide_eq_true c10
    clear c10
    by_cases c11 : 0 ≤ x4_1
    rotate_left
    ·rw [if_neg c11] at H
     exact ab H
    rw [if_pos c11] at H
    have c11b0 : decide (0 ≤ x4_1) = true := decide_eq_true c11
    clear c11
    by_cases c12 : x119000_1.length < 2932031007402
    rotate_left
    ·rw [if_neg c12] at H
     exact ab H
    rw [if_pos c12] at H
    have LMc12 := Aside0.mk c12
    clear c12
    obtain ⟨y120, hy120⟩ : ∃ y_ : List (S79), y_ = (x119000_1 ++ [(⟨(rd_T72 l0_0 x4_1).f0, (rd_T72 l0_0 x4_1).f1, (rd_T72 l0_0 x4_1).f2⟩ : S79)]) := ⟨_, rfl⟩
    replace H : (postriderlaw18_Of.l0 k1 (wrap64 (x4_1 + 1)) l0_0 a0_1 a0_2 y120 a0_1 a0_2) = some (r1, r2, r3) := by first | (rw [hy120]; with_reducible exact H) | (have H2_ := (Option.bind_some _ _).symm.trans H; rw [hy120]; with_reducible exact H2_) | (have H2_ := (Option.bind_some _ _).symm.trans H; with_reducible exact H2_) | with_reducible exact H | (rw [hy120]; exact H) | exact H
    have Ny120 := Aside0.mk hy120
    clear hy120
    have H' := Aside0.mk H
    clear H
    have hnb13 := NB116_117.out
    have hnc13 := NB117_116.out
    have hnb14 := NB116_118.out
    have hnc14 := NB118_116.out
    have hcz15_0 := cz BK116.out 0 (.slice A0_0 l0_0.length c0_0)
    have hcz15_1 := cz BK116.out 1 (.string a0_1)
    have hcz15_2 := cz BK116.out 2 (.bool a0_2)
    have hfz15_0 := blk_frozen BK116.out 0
    have hfz15_1 := blk_frozen BK116.out 1
    have hfz15_2 := blk_frozen BK116.out 2
    try go_wp2
    replace HO_119000 := Aside0.mk (Kd.R_drew HO_119000.out)
    replace BK116 := Aside0.mk (blk_drew BK116.out)
    replace BK117 := Aside0.mk (blk_drew BK117.out)
    replace BK118 := Aside0.mk (blk_drew BK118.out)
    replace HB := Aside0.mk (below_drew1 HB.out)
    have p119 : 0 ≤ (x4_1 : Int) := od
    have q119 : x4_1 < (l0_0.length : Int) := od
    obtain ⟨ad119, e119, hx119_0, hx119_1, hx119_2⟩ := at_T72 HR0_0.out x4_1 p119 q119
    have hw119_2 := hx119_2
    have hw119_1 := hx119_1
    have hw119_0 := hx119_0
    cases e119
    replace hx119_0 := (HB.out.cell (World.block_lt_of_cell? w _ hx119_0)).trans hx119_0
    replace hx119_1 := (HB.out.cell (World.block_lt_of_cell? w _ hx119_1)).trans hx119_1
    replace hx119_2 := (HB.out.cell (World.block_lt_of_cell? w _ hx119_2)).trans hx119_2
    replace p119 := eq_true p119
    replace q119 := eq_true q119
    refine start_ (n := 11) (S := fun w' => w'.cell? ⟨gb118, 0, none⟩ = some (u119000) ∧ w'.cell? ⟨gb118, 1, none⟩ = some (.string a0_1) ∧ w'.cell? ⟨gb118, 2, none⟩ = some (.bool a0_2) ∧ w'.cell? ⟨gb116, 0, none⟩ = some (.slice (some ad119) l0_0.length c0_0) ∧ w'.cell? ⟨gb116, 1, none⟩ = some (.string a0_1) ∧ w'.cell? ⟨gb116, 2, none⟩ = some (.bool a0_2) ∧ w'.cell? (ad119.add ((x4_1).toNat * 3)) = some (.string ((rd_T72 l0_0 x4_1).f0)) ∧ w'.cell? ⟨(ad119.add ((x4_1).toNat * 3)).block, (ad119.add ((x4_1).toNat * 3)).off + 1, none⟩ = some (.string ((rd_T72 l0_0 x4_1).f1)) ∧ w'.cell? ⟨(ad119.add ((x4_1).toNat * 3)).block, (ad119.add ((x4_1).toNat * 3)).off + 2, none⟩ = some (.string ((rd_T72 l0_0 x4_1).f2))) (ds := [10]) #[false, false, false, false, false, false, false, false, false, false, false] kf rfl rfl ⟨(blk_cell BK118.out 0).trans rfl, (blk_cell BK118.out 1).trans rfl, (blk_cell BK118.out 2).trans rfl, (blk_cell BK116.out 0).trans rfl, (blk_cell BK116.out 1).trans rfl, (blk_cell BK116.out 2).trans rfl, ((HB.out.cell (World.block_lt_of_cell? w _ hw119_0)).trans hw119_0), ((HB.out.cell (World.block_lt_of_cell? w _ hw119_1)).trans hw119_1), ((HB.out.cell (World.block_lt_of_cell? w _ hw119_2)).trans hw119_2)⟩ (fun hHeld => ?_); refine with_tabW postriderlaw18_Of.tab5 postriderlaw18_Of.bits5 (fun HT_ HW_ => ?_)
    generalize wr.drew = w16 at HO_119000 BK116 BK117 BK118 HB hx119_0 hx119_1 hx119_2 hHeld ⊢
    refine pure_ (i := 0) (N := some 17) (v := ?_) (a' := ?_) #[true, false, false, false, false, false, false, false, false, false, false] rfl rfl (any_of HT_.out kf) (fun _ _ _ h => h) (Or.inl ⟨by rfl, ?_⟩) ?_ ?_
    rotate_left
    ·intro w'
     go_simp
     with_reducible rfl
    rotate_left
    ·simp only [Act.put, sA, sB, sC, i64_w, i32_w]
     rfl
    refine pure_ (i := 2) (N := some 19) (v := ?_) (a' := ?_) #[true, false, true, false, false, false, false, false, false, false, false] rfl rfl (any_of HT_.out kf) (fun _ _ _ h => h) (Or.inl ⟨by rfl, ?_⟩) ?_ ?_
    rotate_left
    ·intro w'
     go_simp
     with_reducible rfl
    rotate_left
    ·simp only [Act.put, sA, sB, sC, i64_w, i32_w]
     rfl
    refine pure_ (i := 4) (N := some 21) (v := ?_) (a' := ?_) #[true, false, true, false, true, false, false, false, false, false, false] rfl rfl (any_of HT_.out kf) (fun _ _ _ h => h) (Or.inl ⟨by rfl, ?_⟩) ?_ ?_
    rotate_left
    ·intro w'
     go_simp
     with_reducible rfl
    rotate_left
    ·simp only [Act.put, sA, sB, sC, i64_w, i32_w]
     rfl
    refine take_ (i := 1) (N := some 18) (v := ?_) (a' := ?_) #[true, true, true, false, true, false, false, false, false, false, false] rfl rfl (take_ofW HT_.out HW_.out kf) (fun _ _ _ h => h) (Or.inl ⟨by rfl, ?_⟩) hHeld ?_ ?_
    rotate_left
    ·rintro w' ⟨s0, s1, s2, s3, s4, s5, s6, s7, s8⟩
     go_simp
     with_reducible rfl
    rotate_left
    ·simp only [Act.put, sA, sB, sC, i64_w, i32_w]
     rfl
    refine take_ (i := 3) (N := some 20) (v := ?_) (a' := ?_) #[true, true, true, true, true, false, false, false, false, false, false] rfl rfl (take_ofW HT_.out HW_.out kf) (fun _ _ _ h => h) (Or.inl ⟨by rfl, ?_⟩) hHeld ?_ ?_
    rotate_left
    ·rintro w' ⟨s0, s1, s2, s3, s4, s5, s6, s7, s8⟩
     go_simp
     with_reducible rfl
    rotate_left
    ·simp only [Act.put, sA, sB, sC, i64_w, i32_w]
     rfl
    refine pure_ (i := 5) (N := some 22) (v := ?_) (a' := ?_) #[true, true, true, true, true, true, false, false, false, false, false] rfl rfl (any_of HT_.out kf) (fun _ _ _ h => h) (Or.inl ⟨by rfl, ?_⟩) ?_ ?_
    rotate_left
    ·intro w'
     go_simp
     with_reducible rfl
    rotate_left
    ·simp only [Act.put, sA, sB, sC, i64_w, i32_w]
     rfl
    refine take_ (i := 6) (N := some 23) (v := ?_) (a' := ?_) #[true, true, true, true, true, true, true, false, false, false, false] rfl rfl (take_ofW HT_.out HW_.out kf) (fun _ _ _ h => h) (Or.inl ⟨by rfl, ?_⟩) hHeld ?_ ?_
    rotate_left
    ·rintro w' ⟨s0, s1, s2, s3, s4, s5, s6, s7, s8⟩
     go_simp
     with_reducible rfl
    rotate_left
    ·simp only [Act.put, sA, sB, sC, i64_w, i32_w]
     rfl
    refine one_ (i := 7) (N := some 24) #[true, true, true, true, true, true, true, true, false, false, false] rfl rfl (one_of HT_.out kf) (by decide) (fun K hK => ?_)
    refine value_ (w1 := ?_) (v := ?_) (by rfl) rfl ?_ ?_
    rotate_left 2
    ·go_simp
     constructor
     ·rfl
     ·rfl
    refine hK.out _ _ ⟨(blk_cell (blk_alloc BK118.out _) 0).trans rfl, (blk_cell (blk_alloc BK118.out _) 1).trans rfl, (blk_cell (blk_alloc BK118.out _) 2).trans rfl, (blk_cell (blk_alloc BK116.out _) 0).trans rfl, (blk_cell (blk_alloc BK116.out _) 1).trans rfl, (blk_cell (blk_alloc BK116.out _) 2).trans rfl, (World.cell?_alloc_lt _ _ _ (World.block_lt_of_cell? _ _ (((HB.out.cell (World.block_lt_of_cell? w _ hw119_0)).trans hw119_0)))).trans (((HB.out.cell (World.block_lt_of_cell? w _ hw119_0)).trans hw119_0)), (World.cell?_alloc_lt _ _ _ (World.block_lt_of_cell? _ _ (((HB.out.cell (World.block_lt_of_cell? w _ hw119_1)).trans hw119_1)))).trans (((HB.out.cell (World.block_lt_of_cell? w _ hw119_1)).trans hw119_1)), (World.cell?_alloc_lt _ _ _ (World.block_lt_of_cell? _ _ (((HB.out.cell (World.block_lt_of_cell? w _ hw119_2)).trans hw119_2)))).trans (((HB.out.cell (World.block_lt_of_cell? w _ hw119_2)).trans hw119_2))⟩ (fun hHeld => ?_)
    clear hK K
    refine norm_ (a' := ?_) ?_ ?_
    rotate_left
    ·show Act.put _ (some 24) _ = _
     simp only [Act.put, sA, sB, sC, i64_w, i32_w]
     rfl
    refine one_ (i := 8) (N := some 25) #[true, true, true, true, true, true, true, true, true, false, false] rfl rfl (one_of HT_.out kf) (by decide) (fun K hK => ?_)
    refine Kd.R_append_step k79 (w0 := w) w.heap.size (by rfl) (.tmp 18) (.tmp 24) 28 79 (.agg #[(.string ⟨#[]⟩), (.string ⟨#[]⟩), (.string ⟨#[]⟩)]) 48 rfl Tryz.underlying28 info79 rfl (by decide) (by omega) u119000 x119000_1 (⟨(rd_T72 l0_0 x4_1).f0, (rd_T72 l0_0 x4_1).f1, (rd_T72 l0_0 x4_1).f2⟩ : S79) [.string ((rd_T72 l0_0 x4_1).f0), .string ((rd_T72 l0_0 x4_1).f1), .string ((rd_T72 l0_0 x4_1).f2)] (fun _ => True) (fun _ => False) rfl rfl ?aP (fun _ hk => hk.elim) ?aF ?aO ?aB ?aS ?aL ?_
    (case aP => exact k79_mkM _ _ _ (⟨(rd_T72 l0_0 x4_1).f0, (rd_T72 l0_0 x4_1).f1, (rd_T72 l0_0 x4_1).f2⟩ : S79))
    (case aB => exact bl)
    (case aF => exact (fun _ _ => trivial))
    (case aO => exact (kr HO_119000.out))
    (case aS => exact (below_size bl))
    (case aL => have := LMc12.out; omega)
    intro v121 w17 ho hb hg hat
    rw [← Ny120.out] at ho
    replace BK116 := Aside0.mk (blk_grown (g := gb116) (o := .cells #[.slice (some ad119) l0_0.length c0_0, .string a0_1, .bool a0_2] 24 (0, 0)) (bk BK116.out) hg (Kd.R_ne HO_119000.out BK116.out (by decide)))
    replace BK117 := Aside0.mk (blk_grown (g := gb117) (o := .cells #[.slice none 0 0, .string (⟨#[]⟩ : ByteArray), .bool false] 30 (0, 0)) (bk BK117.out) hg (Kd.R_ne HO_119000.out BK117.out (by decide)))
    replace BK118 := Aside0.mk (blk_grown (g := gb118) (o := .cells #[u119000, .string a0_1, .bool a0_2] 30 (0, 0)) (bk BK118.out) hg (Kd.R_ne HO_119000.out BK118.out (by decide)))
    replace HB := Aside0.mk (hb)
    have HO122 := Aside0.mk (ho)
    clear HO_119000 ho hb hg hat
    obtain ⟨Ao18, co18, eo18⟩ := Kd.R_slice HO122.out
    (first | subst eo18 | (injection eo18 with f1_ f2_ f3_; have f4_ := f1_.symm; have f5_ := f3_.symm; clear f1_ f2_ f3_; subst f4_; subst f5_))
    refine hK.out _ _ ⟨(blk_cell BK118.out 0).trans rfl, (blk_cell BK118.out 1).trans rfl, (blk_cell BK118.out 2).trans rfl, (blk_cell BK116.out 0).trans rfl, (blk_cell BK116.out 1).trans rfl, (blk_cell BK116.out 2).trans rfl, ((HB.out.cell (World.block_lt_of_cell? w _ hw119_0)).trans hw119_0), ((HB.out.cell (World.block_lt_of_cell? w _ hw119_1)).trans hw119_1), ((HB.out.cell (World.block_lt_of_cell? w _ hw119_2)).trans hw119_2)⟩ (fun hHeld => ?_)
    clear hK K
    refine norm_ (a' := ?_) ?_ ?_
    rotate_left
    ·show Act.put _ (some 25) _ = _
     simp only [Act.put, sA, sB, sC, i64_w, i32_w]
     rfl
    refine pure_ (i := 9) (N := some 26) (v := ?_) (a' := ?_) #[true, true, true, true, true, true, true, true, true, true, false] rfl rfl (any_of HT_.out kf) (fun _ _ _ h => h) (Or.inl ⟨by rfl, ?_⟩) ?_ ?_
    rotate_left
    ·intro w'
     go_simp
     with_reducible rfl
    rotate_left
    ·simp only [Act.put, sA, sB, sC, i64_w, i32_w]
     rfl
    refine last_ (i := 10) (N := none) #[true, true, true, true, true, true, true, true, true, true, true] rfl rfl (one_of HT_.out kf) (by decide) (fun K hK => ?_)
    have hs19 : w17.cell? ⟨gb118, 0, none⟩ = some (u119000) := (blk_cell BK118.out 0).trans rfl
    have hfs19 := blk_frozen BK118.out 0
    have hns19_0 := NB116_118.out
    have hns19_1 := NB117_118.out
    have hms19_0 := NB118_116.out
    have hms19_1 := NB118_117.out
    refine skip_ (w1 := ?_) (by rfl) rfl ?_ ?_
    rotate_left
    ·go_simp
     rfl
    refine hK.out _ _ ?_
    clear hK K
    refine done_ (done_of HT_.out kf) ?_
    try go_wp2
    go_roundg k1
    case measure => have := HK1.out; omega
    case rel => exact ⟨(wrap64 (x4_1 + 1)), (y120), (.slice Ao18 y120.length co18), rs, H', ⟨by have := HK1.out; omega⟩, ⟨by (with_reducible repeat (first | apply Kd.R_alloc | apply Kd.R_drewN | apply Kd.R_drew)); exact Kd.R_mono (Kd.R_far (p := ⟨gb118, 0, none⟩) (Kd.R_types HO122.out BK118.out (by decide)) (fun _ hk => hk.2) (.slice Ao18 y120.length co18)) (fun _ hk => trivial)⟩, ⟨bk BK116.out⟩, ⟨bk BK117.out⟩, ⟨by (with_reducible repeat (first | refine blk_drewN ?_ _ | refine blk_drew ?_ | refine blk_alloc ?_ _)); refine blk_put (cs := #[u119000, .string a0_1, .bool a0_2]) ?_ 0 _ rfl; (with_reducible repeat (first | refine blk_drewN ?_ _ | refine blk_drew ?_ | refine blk_alloc ?_ _)); exact BK118.out⟩, ⟨bl⟩⟩
   ·rw [if_neg c10] at H
    have c10b0 : decide (x4_1 < (l0_0.length : Int)) = false := decide_eq_false c10
    clear c10
    simp only [Option.some.injEq, Prod.mk.injEq] at H
    obtain ⟨rfl, rfl, rfl⟩ := H
    have hnb20 := NB116_117.out
    have hnc20 := NB117_116.out
    have hnb21 := NB116_118.out
    have hnc21 := NB118_116.out
    have hcz22_0 := cz BK116.out 0 (.slice A0_0 l0_0.length c0_0)
    have hcz22_1 := cz BK116.out 1 (.string a0_1)
    have hcz22_2 := cz BK116.out 2 (.bool a0_2)
    have hfz22_0 := blk_frozen BK116.out 0
    have hfz22_1 := blk_frozen BK116.out 1
    have hfz22_2 := blk_frozen BK116.out 2
    have hnb23 := NB118_117.out
    have hnc23 := NB117_118.out
    have hcz24_0 := cz BK118.out 0 (u119000)
    have hcz24_1 := cz BK118.out 1 (.string a0_1)
    have hcz24_2 := cz BK118.out 2 (.bool a0_2)
    have hfz24_0 := blk_frozen BK118.out 0
    have hfz24_1 := blk_frozen BK118.out 1
    have hfz24_2 := blk_frozen BK118.out 2
    obtain ⟨Ao25, co25, eo25⟩ := Kd.R_slice HO_119000.out
    subst eo25
    have hcz26_0 := cz BK117.out 0 (.slice none 0 0)
    have hcz26_1 := cz BK117.out 1 (.string (⟨#[]⟩ : ByteArray))
    have hcz26_2 := cz BK117.out 2 (.bool false)
    have hfz26_0 := blk_frozen BK117.out 0
    have hfz26_1 := blk_frozen BK117.out 1
    have hfz26_2 := blk_frozen BK117.out 2
    go_wp2
    refine bodyPost_ret (results_cell_row rfl _ _ gb117 30 #[.slice Ao25 x119000_1.length co25, .string a0_1, .bool a0_2] (0, 0) _ rfl (by (with_reducible repeat (first | refine blk_drewN ?_ _ | refine blk_drew ?_ | refine blk_alloc ?_ _)); refine blk_put (cs := #[.slice Ao25 x119000_1.length co25, .string a0_1, .bool false]) ?_ 2 _ rfl; (with_reducible repeat (first | refine blk_drewN ?_ _ | refine blk_drew ?_ | refine blk_alloc ?_ _)); refine blk_put (cs := #[.slice Ao25 x119000_1.length co25, .string (⟨#[]⟩ : ByteArray), .bool false]) ?_ 1 _ rfl; (with_reducible repeat (first | refine blk_drewN ?_ _ | refine blk_drew ?_ | refine blk_alloc ?_ _)); refine blk_put (cs := #[.slice none 0 0, .string (⟨#[]⟩ : ByteArray), .bool false]) ?_ 0 _ rfl; (with_reducible repeat (first | refine blk_drewN ?_ _ | refine blk_drew ?_ | refine blk_alloc ?_ _)); exact BK117.out) Tryz.underlying30 rfl kf) rfl ?_
    exact ⟨_, by first | rfl | (simp [errW_none, errW_some] <;> rfl) | (simp [*, errW_none, errW_some] <;> rfl), by (with_reducible repeat (first | apply Kd.R_alloc | apply Kd.R_drewN | apply Kd.R_drew)); exact Kd.R_mono (Kd.R_far (p := ⟨gb117, 2, none⟩) (Kd.R_far (p := ⟨gb117, 1, none⟩) (Kd.R_far (p := ⟨gb117, 0, none⟩) (Kd.R_types HO_119000.out BK117.out (by decide)) (fun _ hk => hk.2) (.slice Ao25 x119000_1.length co25)) (fun _ hk => hk.2) (.string a0_1)) (fun _ hk => hk.2) (.bool a0_2)) (fun _ hk => trivial), bl⟩

/-! ### text_Lower: function 69 (by hand) -/
def lowC (c : UInt8) : UInt8 := if 65 ≤ c.toNat ∧ c.toNat ≤ 90 then c + 32 else c
def lowerB (s : ByteArray) : ByteArray := ⟨(s.data.toList.map lowC).toArray⟩
def text_Lower.f (a0 : ByteArray) : Option ByteArray := if a0.size < 70368744177000 then some (lowerB a0) else none
def lowT (s : ByteArray) (k : Nat) : List UInt8 := (s.data.toList.take k).map lowC ++ s.data.toList.drop k
/-- The row behind k rounds. -/
def LowRow (s : ByteArray) (k : Nat) (cs : Array Value) : Prop := ∀ j, j < s.size → cs[j]? = some (.int .u8 (((lowT s k).getD j 0).toNat : Nat))
theorem s_len (s : ByteArray) : s.data.toList.length = s.size := by rw [Array.length_toList]; rfl
theorem lowT_at (s : ByteArray) (k j : Nat) (hk : k ≤ s.size) (hj : j < s.size) : (lowT s k).getD j 0 = if j < k then lowC (s[j]'hj) else s[j]'hj := by
  have hl := s_len s
  unfold lowT
  rw [List.getD_eq_getElem?_getD]
  by_cases h : j < k
  · rw [if_pos h, List.getElem?_append_left (by simp; omega)]
    rw [List.getElem?_map, List.getElem?_take_of_lt h, List.getElem?_eq_getElem (by omega)]
    simp
    rfl
  · rw [if_neg h, List.getElem?_append_right (by simp; omega)]
    simp only [List.length_map, List.length_take, List.getElem?_drop]
    rw [show k + (j - min k s.data.toList.length) = j by omega, List.getElem?_eq_getElem (by omega)]
    simp
    rfl
theorem lowT_end (s : ByteArray) : lowT s s.size = s.data.toList.map lowC := by
  unfold lowT
  rw [List.take_of_length_le (by rw [s_len]; omega), List.drop_of_length_le (by rw [s_len]; omega), List.append_nil]
theorem LowRow.start {W w1 : World} {g e : Nat} {s : ByteArray} : LowRow s 0 (Lib.bytesCells w1 e s) := by
  intro j hj
  rw [lowT_at s 0 j (by omega) hj, if_neg (by omega)]
  simp [Lib.bytesCells, Array.getElem?_append, hj]
  rfl
theorem LowRow.same {s : ByteArray} {k : Nat} {cs : Array Value} (h : LowRow s k cs) (hk : k < s.size) (hc : lowC (s[k]'hk) = s[k]'hk) : LowRow s (k + 1) cs := by
  intro j hj
  rw [h j hj, lowT_at s k j (by omega) hj, lowT_at s (k + 1) j (by omega) hj]
  by_cases e : j = k
  · subst e; rw [if_neg (by omega), if_pos (by omega), hc]
  · by_cases l : j < k
    · rw [if_pos l, if_pos (by omega)]
    · rw [if_neg l, if_neg (by omega)]
theorem LowRow.put {s : ByteArray} {k : Nat} {cs : Array Value} (h : LowRow s k cs) (hk : k < s.size) (v : Nat) (hv : v = (lowC (s[k]'hk)).toNat) : LowRow s (k + 1) (cs.setIfInBounds k (.int .u8 (v : Nat))) := by
  intro j hj
  rw [Array.getElem?_setIfInBounds]
  have hsz : k < cs.size := (Array.getElem?_eq_some_iff.1 (h k hk)).1
  by_cases e : k = j
  · subst e
    rw [if_pos rfl, if_pos hsz, lowT_at s (k + 1) k (by omega) hj, if_pos (by omega), hv]
  · rw [if_neg e, h j hj, lowT_at s k j (by omega) hj, lowT_at s (k + 1) j (by omega) hj]
    by_cases l : j < k
    · rw [if_pos l, if_pos (by omega)]
    · rw [if_neg l, if_neg (by omega)]
theorem low_str (s : ByteArray) : strOfNums ((lowT s s.size).map fun c => (c.toNat : Int)) = lowerB s := by
  rw [lowT_end]
  unfold strOfNums lowerB
  simp [List.map_map, Function.comp_def]
theorem blk_setF {w : World} {g : Nat} {t : TypeId} {cs : Array Value} {fz : Nat × Nat} (h : w.heap[g]? = some (.cells cs t fz)) (i : Nat) (u : Value) : (w.setCell ⟨g, i, none⟩ u).heap[g]? = some (.cells (cs.setIfInBounds i u) t fz) := by
  simp [World.setCell, Array.getElem?_modify, h]
theorem text_Lower.calls (a0 : ByteArray) (r : ByteArray) (w : World) (h : text_Lower.f a0 = some r) :
    Calls Tryz.prog 69 #[.string a0] w fun e w' => e = .returned (.string r) ∧ Below w.heap.size w w' := by
  unfold text_Lower.f at h
  by_cases hsz : a0.size < 70368744177000
  · rw [if_pos hsz] at h
    obtain rfl := Option.some.inj h
    clear h
    have hcv := fun W => print_bytes (P := Tryz.prog) 9 102 5 Tryz.underlying9 Tryz.underlying102 Tryz.underlying5 a0 W
    go_enter Tryz.func69, Tryz.ntmps69
    go_wp2
    clear hcv
    have HG := Lib.hid (Lib.bytesWorld_at_new w 5 a0)
    have HB := Lib.hid (bytes_below (Below.refl w.heap.size w) (Nat.le_refl _) 5 a0)
    have HL := Lib.hid (LowRow.start (W := w) (w1 := w) (g := 0) (e := 5) (s := a0))
    have HC := Lib.hid (show a0.size ≤ (Lib.bytesCells w 5 a0).size by simp [Lib.bytesCells])
    obtain ⟨w3, hw3⟩ : ∃ w3, w3 = Lib.bytesWorld w 5 a0 := ⟨_, rfl⟩
    rw [← hw3] at HG HB ⊢
    clear hw3
    generalize Lib.bytesCells w 5 a0 = C at HG HL HC
    generalize grownCap w a0.size 0 5 = cap
    obtain ⟨g, hg⟩ : ∃ g, g = w.heap.size := ⟨_, rfl⟩
    have Hg := Lib.hid hg
    rw [← hg] at HG ⊢
    clear hg
    go_loopw [10] (fun v10 w' => ∃ (k : Nat) (cs : Array Value), v10 = .int .i64 k ∧ k ≤ a0.size ∧ Aside0 (w'.heap[g]? = some (.cells cs 5 (C.size, C.size + 1))) ∧ Aside0 (LowRow a0 k cs) ∧ Aside0 (Below w.heap.size w w')) (fun v10 _ => a0.size - (intOf v10).toNat)
    case atStart => exact ⟨0, C, rfl, Nat.zero_le _, ⟨HG.out⟩, ⟨HL.out⟩, ⟨HB.out⟩⟩
    case round =>
      clear HG HL HB
      obtain ⟨k, cs, rfl, hk, HG, HL, HB⟩ := hrel
      by_cases hlt : k < a0.size
      · have hcell : wr.cell? ⟨g, k, none⟩ = some (.int .u8 ((a0[k]'hlt).toNat : Nat)) := by
          rw [World.cell?]
          simp only [HG.out]
          have := HL.out k hlt
          rw [lowT_at a0 k k (by omega) hlt, if_neg (by omega)] at this
          simpa using this
        have hfz : wr.frozen? ⟨g, k, none⟩ = false := by
          have := HC.out
          simp only [World.frozen?, HG.out]
          simp
          omega
        have HP := Lib.hid (HL.out.put hlt)
        have HE := Lib.hid (HL.out.same hlt)
        have hc256 : (a0[k]'hlt).toNat < 256 := UInt8.toNat_lt _
        have Hlow : Hid ((lowC (a0[k]'hlt)).toNat = if 65 ≤ (a0[k]'hlt).toNat ∧ (a0[k]'hlt).toNat ≤ 90 then (a0[k]'hlt).toNat + 32 else (a0[k]'hlt).toNat) := Lib.hid (by
          unfold lowC
          split
          · rw [UInt8.toNat_add]; simp; omega
          · rfl)
        obtain ⟨d, hd⟩ : ∃ d, d = a0[k]'hlt := ⟨_, rfl⟩
        rw [← hd] at HP HE Hlow hcell hc256
        obtain ⟨c, hc⟩ : ∃ c : Nat, c = d.toNat := ⟨_, rfl⟩
        rw [← hc] at Hlow hcell hc256
        have Hc := Lib.hid hc
        clear hc hd
        by_cases h1 : 65 ≤ c
        · have b1 : decide (65 ≤ (c : Int)) = true := decide_eq_true (by omega)
          by_cases h2 : c ≤ 90
          · have b2 : decide ((c : Int) ≤ 90) = true := decide_eq_true (by omega)
            go_wp2
            go_roundw
            case rel => exact ⟨k + 1, _, by go_num, hlt, ⟨blk_setF HG.out k _⟩, ⟨by
              have hv := HP.out (c + 32) (by rw [Hlow.out, if_pos ⟨h1, h2⟩])
              have e : ((c : Int) + 97 - 65) = ((c + 32 : Nat) : Int) := by omega
              first | (rw [e]; exact hv) | exact hv⟩, ⟨below_set HB.out (by have := Hg.out; omega)⟩⟩
            case measure => simp [intOf]; omega
          · have b2 : decide ((c : Int) ≤ 90) = false := decide_eq_false (by omega)
            go_wp2
            go_roundw
            case rel => exact ⟨k + 1, cs, by go_num, hlt, HG, ⟨HE.out (UInt8.toNat_inj.mp (by rw [Hlow.out, if_neg (by omega), Hc.out]))⟩, HB⟩
            case measure => simp [intOf]; omega
        · have b1 : decide (65 ≤ (c : Int)) = false := decide_eq_false (by omega)
          go_wp2
          go_roundw
          case rel => exact ⟨k + 1, cs, by go_num, hlt, HG, ⟨HE.out (UInt8.toNat_inj.mp (by rw [Hlow.out, if_neg (by omega), Hc.out]))⟩, HB⟩
          case measure => simp [intOf]; omega
      · have hk' : k = a0.size := by omega
        subst hk'
        have hcs := run_convert_bytes_arg (P := Tryz.prog) wr 102 5 Tryz.underlying102 Tryz.underlying5 g 0 a0.size cap ((lowT a0 a0.size).map fun c => (c.toNat : Int)) (by rw [List.length_map, lowT_end, List.length_map, s_len]) (fun i hi => by
          rw [Nat.zero_add, World.cell?]
          simp only [HG.out]
          have := HL.out i hi
          rw [lowT_end] at this ⊢
          have hl : i < a0.data.toList.length := by rw [s_len]; exact hi
          simp only [List.getD_eq_getElem?_getD, List.getElem?_map, List.getElem?_eq_getElem hl, Option.map_some, Option.getD_some] at this ⊢
          exact this) 9 Tryz.underlying9
        rw [low_str] at hcs
        go_wp2
        go_ret
        exact ⟨rfl, HB.out⟩
  · rw [if_neg hsz] at h; cases h


/-! ### text_Same: function 70 -/
def text_Same.f (a0 : ByteArray) (a1 : ByteArray) : Option (Bool) := (text_Lower.f a0).bind fun t123 => ((text_Lower.f a1).bind fun t124 => (some (t123.toList == t124.toList)))
theorem text_Same.calls (a0 : ByteArray) (a1 : ByteArray) (r : Bool) (w : World) (h : text_Same.f a0 a1 = some r) :
  Calls Tryz.prog 70 #[.string a0, .string a1] w fun e w' => e = .returned (.bool r) ∧ Below w.heap.size w w' := by
 have HB := Aside0.mk (Below.refl w.heap.size w)
 have H : ((text_Lower.f a0).bind fun t123 => ((text_Lower.f a1).bind fun t124 => (some (t123.toList == t124.toList)))) = some r := h
 clear h
 obtain ⟨t123, A30, H⟩ := Option.bind_eq_some_iff.mp H
 replace H : ((text_Lower.f a1).bind fun t124 => (some (t123.toList == t124.toList))) = some r := H
 have A3 := Aside0.mk A30
 clear A30
 obtain ⟨t124, A40, H⟩ := Option.bind_eq_some_iff.mp H
 replace H : (some (t123.toList == t124.toList)) = some r := H
 have A4 := Aside0.mk A40
 clear A40
 obtain rfl := Option.some.inj H
 go_enter Tryz.func70, Tryz.ntmps70
 go_wp2_with (first | ((with_reducible refine gate_callee (f := 69) rfl ?_); refine goesL_ (some 6) rfl rfl Tryz.func69 kf rfl #[.string a0] rfl ml ?_; (with_reducible refine (text_Lower.calls a0 t123 _ A3.out).mono ?_); rintro e w5 ⟨rfl, hb⟩; refine ⟨_, rfl, ?_⟩; replace HB := Aside0.mk (below_step bl hb); (try clear hb); (try clear hb2); (try clear hk); (try clear hi)) | ((with_reducible refine gate_callee (f := 69) rfl ?_); refine goesL_ (some 8) rfl rfl Tryz.func69 kf rfl #[.string a1] rfl ml ?_; (with_reducible refine (text_Lower.calls a1 t124 _ A4.out).mono ?_); rintro e w6 ⟨rfl, hb⟩; refine ⟨_, rfl, ?_⟩; replace HB := Aside0.mk (below_step bl hb); (try clear hb); (try clear hb2); (try clear hk); (try clear hi)))
 go_ret
 exact ⟨rf, bl⟩

end Go.Proofs.YtacjnapgdikhbaaGreatDoor.Q
end
section
namespace Go.Proofs.YtacjnapgdikhbaaGreatDoor.Q

/-! ### head_Message_Find: function 44 (by hand) -/
def headSel (l0 : List S72) (nm : ByteArray) : List ByteArray := (l0.filter fun x => decide (lowerB x.f0 = lowerB nm)).map (·.f1)
def headSelOk (l0 : List S72) (nm : ByteArray) : Prop := (∀ x ∈ l0, x.f0.size < 70368744177000) ∧ nm.size < 70368744177000 ∧ l0.length ≤ 1000000000000
instance (l0 : List S72) (nm : ByteArray) : Decidable (headSelOk l0 nm) := by unfold headSelOk; infer_instance
section
open Go.Shelf
attribute [local go_sem] Oper.semAt_some

theorem sel_succ_yes (l0 : List S72) (nm : ByteArray) (k : Nat) {x : Int} (hx : x = (k : Nat)) (h : k < l0.length) (e : lowerB (rd_T72 l0 x).f0 = lowerB nm) : headSel (l0.take (k + 1)) nm = headSel (l0.take k) nm ++ [(rd_T72 l0 x).f1] := by
  have hr : rd_T72 l0 x = l0[k] := by
    subst hx
    unfold rd_T72; rw [Int.toNat_natCast, List.getD_eq_getElem?_getD, List.getElem?_eq_getElem h]; rfl
  rw [hr] at e ⊢
  unfold headSel
  rw [List.take_succ_eq_append_getElem h, List.filter_append, List.map_append]
  simp [List.filter_cons, e]
theorem sel_succ_no (l0 : List S72) (nm : ByteArray) (k : Nat) {x : Int} (hx : x = (k : Nat)) (h : k < l0.length) (e : lowerB (rd_T72 l0 x).f0 ≠ lowerB nm) : headSel (l0.take (k + 1)) nm = headSel (l0.take k) nm := by
  have hr : rd_T72 l0 x = l0[k] := by
    subst hx
    unfold rd_T72; rw [Int.toNat_natCast, List.getD_eq_getElem?_getD, List.getElem?_eq_getElem h]; rfl
  rw [hr] at e
  unfold headSel
  rw [List.take_succ_eq_append_getElem h, List.filter_append, List.map_append]
  simp [List.filter_cons, e]
theorem sel_pre (l0 : List S72) (nm : ByteArray) (k : Nat) : headSel (l0.take k) nm <+: headSel l0 nm := by
  unfold headSel
  exact ((List.take_prefix k l0).filter _).map _
theorem same_some (a b : ByteArray) (ha : a.size < 70368744177000) (hb : b.size < 70368744177000) : text_Same.f a b = some (decide (lowerB a = lowerB b)) := by
  unfold text_Same.f text_Lower.f
  rw [if_pos ha, if_pos hb]
  simp only [Option.bind_some]
  congr 1
  rw [Bool.eq_iff_iff, beq_iff_eq, decide_eq_true_iff]
  constructor
  · intro h
    unfold lowerB at h ⊢
    rw [ByteArray.toList_eq, ByteArray.toList_eq] at h
    simpa using h
  · intro h; rw [h]
/-- What the iterator reads: boxes in the world in which it was made; the fields' row, below the world ws. -/
structure ValAt (ws w0 : World) (Bm Bn : Nat) (A0 : Option Addr) (c0 : Nat) (l0 : List S72) (a1 : ByteArray) (a2 : Bool) (nm : ByteArray) : Prop where
  m : w0.heap[Bm]? = some (.cells #[.slice A0 l0.length c0, .string a1, .bool a2] 24 (0, 0))
  n : w0.heap[Bn]? = some (.cells #[.string nm] 9 (0, 0))
  r : Kd.C k72 ws A0 l0.length l0
  c : l0.length ≤ c0
  b : Below ws.heap.size ws w0
theorem ValAt.below {ws w0 w1 : World} {Bm Bn c0 : Nat} {A0 : Option Addr} {l0 : List S72} {a1 nm : ByteArray} {a2 : Bool} (h : ValAt ws w0 Bm Bn A0 c0 l0 a1 a2 nm) (hb : Below w0.heap.size w0 w1) : ValAt ws w1 Bm Bn A0 c0 l0 a1 a2 nm :=
  ⟨blk_below h.m hb, blk_below h.n hb, h.r, h.c, h.b.trans (hb.mono h.b.size)⟩
/-- What a round leaves as it is. -/
def KeepV (n₀ Bn : Nat) (W W' : World) : Prop := Below n₀ W W' ∧ W'.heap[Bn]? = W.heap[Bn]?
theorem KeepV.t {n₀ Bn : Nat} {A B C : World} (h : KeepV n₀ Bn A B) (k : KeepV n₀ Bn B C) : KeepV n₀ Bn A C := ⟨h.1.trans k.1, k.2.trans h.2⟩
theorem KeepV.b {n₀ Bn : Nat} {w : World} (hn : n₀ ≤ w.heap.size) (hB : Bn < w.heap.size) (W : World) (l : Nat) (o o' : Obj) (hl : w.heap.size ≤ l) (h : W.heap[l]? = some o) (h1 : o.isCells = false) (h2 : o.isWalk = false) : KeepV n₀ Bn W (W.putObj l o') :=
  ⟨belowK_b hn W l o o' hl h h1 h2, World.putObj_heap_other (by omega)⟩

theorem vals_in (n : Nat) (hn : 1 ≤ n) (l Bm Bn : Nat) (A0 : Option Addr) (c0 : Nat) (l0 : List S72) (a1 : ByteArray) (a2 : Bool) (nm : ByteArray) (hok : headSelOk l0 nm) (J Jx : List ByteArray → World → Prop) (ws W : World)
    (hJ : AbidesFrom W.heap.size J)
    (hY : ∀ pre x W, J pre W → pre.length < (headSel l0 nm).length → YieldAt Fence.wide (n - 1) Tryz.prog l #[.string x] W fun e W' =>
      (e = .returned (.bool true) ∧ J (pre ++ [x]) W' ∧ KeepV ws.heap.size Bn W W') ∨ (e = .returned (.bool false) ∧ Jx (pre ++ [x]) W'))
    (hv0 : ValAt ws W Bm Bn A0 c0 l0 a1 a2 nm) (h0 : J [] W) :
    CallsIn Fence.wide n Tryz.prog 125 #[.func (.yield l) #[] #[], .pointer (some ⟨Bm, 0, none⟩), .pointer (some ⟨Bn, 0, none⟩)] W fun e W' => (∃ v, e = .returned v) ∧
      ((∃ ys, ys = headSel l0 nm ∧ J ys W') ∨ (∃ pre, pre <+: headSel l0 nm ∧ Jx pre W')) := by
  have HV := Aside0.mk hv0
  have HB := Aside0.mk hv0.b
  have HN := Aside0.mk hv0.n
  have HJ := Aside0.mk hJ
  have HY := Aside0.mk hY
  have H0 := Aside0.mk h0
  have HK := Aside0.mk hok
  have hl9 : l0.length ≤ 1000000000000 := hok.2.2
  clear hv0 hJ hY h0 hok
  have hq1 := (blk_cell HV.out.m 0).trans rfl
  refine callsIn_of_wp Tryz.func125 rfl trivial ?_ rfl
  simp only [Tryz.ntmps125, List.size_toArray, List.length_cons, List.length_nil, Nat.reduceAdd, Nat.reduceSub, Array.replicate_succ, Array.replicate_zero, List.push_toArray, List.append_toArray, List.nil_append, List.cons_append]
  gi_wp2
  gi_loopw [9] (fun v9 w' => ∃ (x : Int) (k : Nat), v9 = .int .i64 x ∧ Aside0 (x = (k : Nat)) ∧ 0 ≤ x ∧ x ≤ l0.length ∧ Aside0 (J (headSel (l0.take k) nm) w') ∧ Aside0 (Below ws.heap.size ws w') ∧ Aside0 (w'.heap[Bn]? = some (.cells #[.string nm] 9 (0, 0)))) (fun v9 _ => l0.length - (intOf v9).toNat)
  case atStart => exact ⟨0, 0, rfl, ⟨rfl⟩, Int.le_refl _, by omega, ⟨by simpa [headSel] using H0.out⟩, HB, HN⟩
  case round =>
    clear H0 HB HN
    obtain ⟨x, k, rfl, Hx, hx0, hx1, HI, HB, HN⟩ := hrel
    by_cases hlt : x < l0.length
    · have hk : k < l0.length := by have := Hx.out; omega
      obtain ⟨ad, e, g0, g1, g2⟩ := at_T72 (Kd.C_below HV.out.r HB.out) x hx0 hlt
      cases e
      have hn0 : wr.cell? ⟨Bn, 0, none⟩ = some (.string nm) := (blk_cell HN.out 0).trans rfl
      have hn1 : ∀ o, (wr.alloc o).cell? ⟨Bn, 0, none⟩ = some (.string nm) := fun o => (World.cell?_alloc_lt wr o _ (blk_lt HN.out)).trans hn0
      have hd : decide (x < (l0.length : Int)) = true := decide_eq_true hlt
      obtain ⟨bb, hbb⟩ : ∃ bb, bb = decide (lowerB (rd_T72 l0 x).f0 = lowerB nm) := ⟨_, rfl⟩
      have HS := Aside0.mk (same_some (rd_T72 l0 x).f0 nm (HK.out.1 _ (by rw [rd_T72, List.getD_eq_getElem?_getD, List.getElem?_eq_getElem (by have := Hx.out; omega)]; exact List.getElem_mem _)) HK.out.2.1)
      rw [← hbb] at HS
      have Hbb := Aside0.mk hbb
      have HL : Aside0 (bb = true → (headSel (l0.take k) nm).length < (headSel l0 nm).length) := ⟨fun e => by
        rw [hbb, decide_eq_true_iff] at e
        have h1 := sel_succ_yes l0 nm k Hx.out hk e
        have h2 := (sel_pre l0 nm (k + 1)).length_le
        rw [h1, List.length_append] at h2
        simp at h2
        omega⟩
      clear hbb
      cases bb with
      | true =>
        gi_wp2_with (refine ⟨trivial, ?_⟩; gi_at_call 70; (with_reducible refine (callsIn_wide.2 (text_Same.calls _ _ _ _ HS.out)).mono ?_); rintro e2 w2 ⟨rfl, hb2⟩; have hc2 : w2.cell? ⟨wr.heap.size, 1, none⟩ = some (.string (rd_T72 l0 x).f1) := (blk_cell (blk_below (blk_new _ _) hb2) 1).trans rfl; have HI2 : Aside0 (J (headSel (l0.take k) nm) w2) := ⟨HJ.out _ _ _ none HI.out ((World.grownBy_alloc wr _ none).trans (grown_of_below hb2 none)) (fun _ h => by cases h)⟩; have HN2 : Aside0 (w2.heap[Bn]? = some (.cells #[.string nm] 9 (0, 0))) := ⟨blk_below (blk_alloc HN.out _) hb2⟩; have HB2 : Aside0 (Below ws.heap.size ws w2) := ⟨(HB.out.alloc HB.out.size _).trans (hb2.mono (Nat.le_trans HB.out.size (by simp)))⟩; obtain ⟨fn, tmps, assign, body, hy, hR⟩ := HY.out _ (rd_T72 l0 x).f1 w2 HI2.out (HL.out rfl); have HRR := Aside0.mk hR; clear hR hb2)
        refine HRR.out.mono ?_
        rintro e3 w3 (⟨rfl, hJ3, hk3⟩ | ⟨rfl, hJ3⟩)
        · gi_wp2
          exact ⟨⟨x + 1, k + 1, rfl, ⟨by have := Hx.out; omega⟩, by omega, by omega, ⟨by rw [sel_succ_yes l0 nm k Hx.out hk (of_decide_eq_true Hbb.out.symm)]; exact hJ3⟩, ⟨HB2.out.trans hk3.1⟩, ⟨hk3.2.trans HN2.out⟩⟩, by simp [intOf]; omega⟩
        · gi_wp2
          refine bodyPost_ret (results_none rfl _ _ _) rfl ?_
          exact ⟨⟨_, rfl⟩, .inr ⟨_, by rw [← sel_succ_yes l0 nm k Hx.out hk (of_decide_eq_true Hbb.out.symm)]; exact sel_pre _ _ _, hJ3⟩⟩
      | false =>
        gi_wp2_with (refine ⟨trivial, ?_⟩; gi_at_call 70; (with_reducible refine (callsIn_wide.2 (text_Same.calls _ _ _ _ HS.out)).mono ?_); rintro e2 w2 ⟨rfl, hb2⟩; have HI2 : Aside0 (J (headSel (l0.take k) nm) w2) := ⟨HJ.out _ _ _ none HI.out ((World.grownBy_alloc wr _ none).trans (grown_of_below hb2 none)) (fun _ h => by cases h)⟩; have HN2 : Aside0 (w2.heap[Bn]? = some (.cells #[.string nm] 9 (0, 0))) := ⟨blk_below (blk_alloc HN.out _) hb2⟩; have HB2 : Aside0 (Below ws.heap.size ws w2) := ⟨(HB.out.alloc HB.out.size _).trans (hb2.mono (Nat.le_trans HB.out.size (by simp)))⟩; clear hb2)
        refine ⟨fun _ h => (by cases h), ?_⟩
        gi_wp2
        exact ⟨⟨x + 1, k + 1, rfl, ⟨by have := Hx.out; omega⟩, by omega, by omega, ⟨by rw [sel_succ_no l0 nm k Hx.out hk (of_decide_eq_false Hbb.out.symm)]; exact HI2.out⟩, HB2, HN2⟩, by simp [intOf]; omega⟩
    · have hxe : x = l0.length := by omega
      have hke : k = l0.length := by have := Hx.out; omega
      have hd : decide (x < (l0.length : Int)) = false := decide_eq_false hlt
      have HI2 : Aside0 (J (headSel l0 nm) wr) := ⟨by have := HI.out; rw [hke, List.take_length] at this; exact this⟩
      clear hxe hke
      gi_wp2
      go_end0
      exact ⟨⟨_, rfl⟩, .inl (by first | exact HI2.out | exact ⟨_, rfl, HI2.out⟩)⟩

theorem vals_stops (n : Nat) (hn : 1 ≤ n) (Bm Bn : Nat) (A0 : Option Addr) (c0 : Nat) (l0 : List S72) (a1 : ByteArray) (a2 : Bool) (nm : ByteArray) (hok : headSelOk l0 nm) (ws w0 : World) (hv : ValAt ws w0 Bm Bn A0 c0 l0 a1 a2 nm) :
    SeqStopsK Fence.wide n Tryz.prog 125 #[.pointer (some ⟨Bm, 0, none⟩), .pointer (some ⟨Bn, 0, none⟩)] (fun x : ByteArray => #[Value.string x]) (KeepV ws.heap.size Bn) (fun ys => ys = headSel l0 nm) (fun pre => pre <+: headSel l0 nm) (headSel l0 nm).length w0 :=
  fun l J Jx W hW hJ _ hY h0 => vals_in n hn l Bm Bn A0 c0 l0 a1 a2 nm hok J Jx ws W hJ hY (hv.below hW) h0
theorem vals_made (A0 : Option Addr) (c0 : Nat) (l0 : List S72) (a1 : ByteArray) (a2 : Bool) (nm : ByteArray) (ws w : World) (hr0 : Kd.C k72 ws A0 l0.length l0) (hb0 : Below ws.heap.size ws w) (hc0 : l0.length ≤ c0) :
    Calls Tryz.prog 77 #[.agg #[.slice A0 l0.length c0, .string a1, .bool a2], .string nm] w fun e w' => ∃ Bm Bn : Nat, e = .returned (.func (.func 125) #[] #[.pointer (some ⟨Bm, 0, none⟩), .pointer (some ⟨Bn, 0, none⟩)]) ∧ ValAt ws w' Bm Bn A0 c0 l0 a1 a2 nm ∧ w.heap.size ≤ Bn ∧ Below w.heap.size w w' := by
  have HB0 := Aside0.mk hb0
  clear hb0
  go_enter Tryz.func77, Tryz.ntmps77
  go_wp2
  go_ret
  have hb : Below w.heap.size w ((w.alloc (.cells #[.slice A0 l0.length c0, .string a1, .bool a2] 24)).alloc (.cells #[.string nm] 9)) := below_alloc (below_alloc (Below.refl _ _) _) _
  exact ⟨_, _, rfl, ⟨blk_alloc (blk_new _ _) _, by have := blk_new (w.alloc (.cells #[.slice A0 l0.length c0, .string a1, .bool a2] 24)) (.cells #[.string nm] 9); simpa using this, hr0, hc0, HB0.out.trans (hb.mono HB0.out.size)⟩, by simp, hb⟩
end

section
open Go.Shelf
attribute [local go_sem] Oper.semAt_some
theorem appendSeq_in (A0 : Option Addr) (c0 : Nat) (l0 : List S72) (a1 : ByteArray) (a2 : Bool) (nm : ByteArray) (hok : headSelOk l0 nm) (ws w : World) (Bm Bn : Nat) (hv : ValAt ws w Bm Bn A0 c0 l0 a1 a2 nm) :
    CallsIn Fence.wide 9 Tryz.prog 126 #[.slice none 0 0, .func (.func 125) #[] #[.pointer (some ⟨Bm, 0, none⟩), .pointer (some ⟨Bn, 0, none⟩)]] w fun e w' => ∃ v, e = .returned v ∧ Kd.R Kd.string 9 w' w.heap.size (fun _ => True) v (headSel l0 nm) ∧ Below w.heap.size w w' := by
  have hl9 : (headSel l0 nm).length ≤ 1000000000000 := Nat.le_trans (by unfold headSel; rw [List.length_map]; exact List.length_filter_le _ _) hok.2.2
  have HK := Aside0.mk hok
  have HL9 := Aside0.mk hl9
  have HV := Aside0.mk hv
  clear hok hv hl9
  obtain ⟨i0, hi, hz0, hz1, hz2⟩ := info_parts info9
  refine callsIn_of_wp_marks Tryz.func126 rfl trivial ?_ rfl
  simp only [Tryz.ntmps126, List.size_toArray, List.length_cons, List.length_nil, Nat.reduceAdd, Nat.reduceSub, Array.replicate_succ, Array.replicate_zero, List.push_toArray, List.append_toArray, List.nil_append, List.cons_append]
  gi_wp2_with fail
  have bO := Boxed.new w 84 (.slice none 0 0)
  have hB0 : Below w.heap.size w (w.alloc (.cells #[.slice none 0 0] 84)) := (Below.refl _ w).alloc (Nat.le_refl _) _
  refine wpIn_rangeFunc_ownG rfl (by omega) (gf := 125) (lb := #[.pointer (some ⟨Bm, 0, none⟩), .pointer (some ⟨Bn, 0, none⟩)]) rfl trivial (enters_of Tryz.func125 kf rfl)
    (vals_stops _ (by omega) Bm Bn A0 c0 l0 a1 a2 nm HK.out ws _ (HV.out.below hB0)) KeepV.t (KeepV.b (Nat.le_trans HV.out.b.size (by simp)) (by have := blk_lt HV.out.n; simp; omega)) (Below.refl _ _) (fun _ => rfl)
    (fun pre W => (∃ v, Boxed W w.heap.size 84 v ∧ W.ownsRow w.heap.size 9 1 v pre.length (pre.map Value.string) ∧ True) ∧ Below w.heap.size w W)
    (fun _ _ _ => False)
    (OwnFrom.and (Own.from (holdsRow_own w.heap.size w.heap.size 84 9 1 (fun pre : List ByteArray => pre.length) (fun pre => pre.map Value.string) (fun pre v => True)) _) (ownFrom_below (Nat.le_refl _) (by simp)))
    (fun _ _ _ _ _ hs _ _ => hs)
    ⟨⟨_, bO, World.ownsRow_nil _ _ _ _, trivial⟩, hB0⟩
    (fun x => { tmps := #[.slice none 0 0, .func (.func 125) #[] #[.pointer (some ⟨Bm, 0, none⟩), .pointer (some ⟨Bn, 0, none⟩)], .pointer (some ⟨w.heap.size, 0, none⟩), undef, .slice none 0 0, .string x, .func (.func 125) #[] #[.pointer (some ⟨Bm, 0, none⟩), .pointer (some ⟨Bn, 0, none⟩)], .string x, undef, undef, undef, undef, undef], defers := [] }) ?assign ?body ?done ?stop
  case assign =>
    intro l x W K hK
    gi_wp2
    exact hK
  case body =>
    rintro l pre x W ⟨⟨v, hv, hrow, _⟩, hB⟩ hlt
    have hc := hv.cell
    have hp : pre.length ≤ 1000000000000 := by have := HL9.out; omega
    clear hlt
    gi_wp2_with (gi_at_builtin; refine wpListIn_append_own _ rfl _ _ 84 rfl w.heap.size 9 i0 (.string ⟨#[]⟩) 1 16 Tryz.underlying84 hi hz0 hz1 hz2 rfl (by decide) _ _ _ rfl (hrow.alloc _) ⟨W.heap.size, 0, none⟩ 1 1 [.string x] rfl rfl (cell_one_new _ _ _) (by simp [Value.oneCell']) (by simp only [maxLen]; omega) (by omega) (by have := hB.size; simp; omega) ?_; intro v' w1 hown' hgrow _; obtain ⟨g', cap', rfl⟩ := ownsRow_succ hown'; obtain ⟨hv1, hv2, hr2, hk2, hb2⟩ := hv.appended (by decide) hrow hB.size (Nat.le_refl _) hown' hgrow; have hc1 := hv1.cell; have hf1 := hv1.frozen)
    exact ⟨hk2.from _, ⟨hb2.mono HV.out.b.size, hb2.block Bn (blk_lt HV.out.n)⟩, ⟨_, hv2, by simpa using hr2, trivial⟩, hB.trans hb2⟩
  case done =>
    rintro D ys W hD rfl ⟨⟨v, hv, hrow, _⟩, hB⟩ hK
    have hc := hv.cell
    gi_wp2
    refine ⟨by simp, .inl ⟨_, _, rfl, run_takeDeferred hK, ?_⟩⟩
    exact ⟨_, results_tmp rfl _ _ _, v, rfl, Kd.R_of_own (ownsRow_putObj hrow _ hK rfl) (fun _ _ => trivial), hB.trans (belowK_b (w := w) (Nat.le_refl _) W D _ _ (by simp at hD; omega) hK rfl rfl)⟩
  case stop =>
    rintro D c pre W _ _ h _
    exact h.elim
theorem collect_calls (A0 : Option Addr) (c0 : Nat) (l0 : List S72) (a1 : ByteArray) (a2 : Bool) (nm : ByteArray) (hok : headSelOk l0 nm) (ws w : World) (Bm Bn : Nat) (hv : ValAt ws w Bm Bn A0 c0 l0 a1 a2 nm) :
    Calls Tryz.prog 78 #[.func (.func 125) #[] #[.pointer (some ⟨Bm, 0, none⟩), .pointer (some ⟨Bn, 0, none⟩)]] w fun e w' => ∃ v, e = .returned v ∧ Kd.R Kd.string 9 w' w.heap.size (fun _ => True) v (headSel l0 nm) ∧ Below w.heap.size w w' := by
  have HK := Aside0.mk hok
  have HV := Aside0.mk hv
  clear hok hv
  go_enter Tryz.func78, Tryz.ntmps78
  go_wp2_with (go_at_call 126; (with_reducible refine (callsIn_wide.1 (appendSeq_in A0 c0 l0 a1 a2 nm HK.out ws _ Bm Bn HV.out)).mono ?_); rintro e w2 ⟨v, rfl, hr, hb⟩)
  go_ret
  exact ⟨v, rfl, hr, hb⟩
theorem find_calls (A0 : Option Addr) (c0 : Nat) (l0 : List S72) (a1 : ByteArray) (a2 : Bool) (nm : ByteArray) (hok : headSelOk l0 nm) (w : World) (hr0 : Kd.C k72 w A0 l0.length l0) (hc0 : l0.length ≤ c0) :
    Calls Tryz.prog 44 #[.agg #[.slice A0 l0.length c0, .string a1, .bool a2], .string nm] w fun e w' => ∃ v, e = .returned v ∧ Kd.R Kd.string 9 w' w.heap.size (fun _ => True) v (headSel l0 nm) ∧ Below w.heap.size w w' := by
  have HK := Aside0.mk hok
  have HC := Aside0.mk hc0
  have HR := Aside0.mk hr0
  clear hok hr0 hc0
  go_enter Tryz.func44, Tryz.ntmps44
  go_wp2_with (first | (go_at_call 77; (with_reducible refine (vals_made A0 c0 l0 a1 a2 nm w _ HR.out (below_alloc (Below.refl _ _) _) HC.out).mono ?_); rintro e w2 ⟨Bm, Bn, rfl, hv, hz, hb⟩; have HV := Aside0.mk hv; have HB := Aside0.mk hb; clear hv hz hb) | (go_at_call 78; (with_reducible refine (collect_calls A0 c0 l0 a1 a2 nm HK.out w _ Bm Bn HV.out).mono ?_); rintro e w3 ⟨v, rfl, hr, hb3⟩))
  go_ret
  exact ⟨v, rfl, Kd.R_lower hr HV.out.b.size, HV.out.b.trans (hb3.mono HV.out.b.size)⟩
end
def head_Message_Find.f (l0 : List S72) (_a1 : ByteArray) (_a2 : Bool) (a3 : ByteArray) : Option (List ByteArray) := if headSelOk l0 a3 then some (headSel l0 a3) else none
theorem head_Message_Find.calls (A0 : Option Addr) (c0 : Nat) (l0 : List S72) (a1 : ByteArray) (a2 : Bool) (a3 : ByteArray) (r : List ByteArray) (w : World) (hr0 : Kd.C k72 w A0 l0.length l0) (hc0 : l0.length ≤ c0) (h : head_Message_Find.f l0 a1 a2 a3 = some r) :
    Calls Tryz.prog 44 #[.agg #[.slice A0 l0.length c0, .string a1, .bool a2], .string a3] w fun e w' => ∃ v0_ : Value, e = .returned (v0_) ∧ Kd.R Kd.string 9 w' w.heap.size (fun _ => True) v0_ r ∧ Below w.heap.size w w' := by
  unfold head_Message_Find.f at h
  by_cases hok : headSelOk l0 a3
  · rw [if_pos hok] at h
    obtain rfl := Option.some.inj h
    exact find_calls A0 c0 l0 a1 a2 a3 hok w hr0 hc0
  · rw [if_neg hok] at h; cases h


/-! ### head_Message_Count: function 42 (by hand) -/
section
open Go.Shelf
attribute [local go_sem] Oper.semAt_some
theorem count_in (A0 : Option Addr) (c0 : Nat) (l0 : List S72) (a1 : ByteArray) (a2 : Bool) (nm : ByteArray) (hok : headSelOk l0 nm) (w : World) (hr0 : Kd.C k72 w A0 l0.length l0) (hc0 : l0.length ≤ c0) :
    CallsIn Fence.wide 9 Tryz.prog 42 #[.agg #[.slice A0 l0.length c0, .string a1, .bool a2], .string nm] w fun e w' => e = .returned (.int .i64 (headSel l0 nm).length) ∧ Below w.heap.size w w' := by
  have hl9 : (headSel l0 nm).length ≤ 1000000000000 := Nat.le_trans (by unfold headSel; rw [List.length_map]; exact List.length_filter_le _ _) hok.2.2
  have HK := Aside0.mk hok
  have HL9 := Aside0.mk hl9
  have HC := Aside0.mk hc0
  have HR := Aside0.mk hr0
  clear hok hr0 hc0 hl9
  refine callsIn_of_wp_marks Tryz.func42 rfl trivial ?_ rfl
  simp only [Tryz.ntmps42, List.size_toArray, List.length_cons, List.length_nil, Nat.reduceAdd, Nat.reduceSub, Array.replicate_succ, Array.replicate_zero, List.push_toArray, List.append_toArray, List.nil_append, List.cons_append]
  gi_wp2_with (refine ⟨trivial, ?_⟩; gi_at_call 77; (with_reducible refine (callsIn_wide.2 (vals_made A0 c0 l0 a1 a2 nm w _ HR.out (below_alloc (below_alloc (Below.refl _ _) _) _) HC.out)).mono ?_); rintro e w2 ⟨Bm, Bn, rfl, hv, hz, hb⟩; have HBn := Aside0.mk hz; clear hz; have HV := Aside0.mk hv; have HB := Aside0.mk hb; clear hv hb)
  have HC2 : Aside0 (w2.cell? ⟨w.heap.size + 1, 0, none⟩ = some (.int .i64 ([] : List ByteArray).length)) := ⟨by
    have := blk_cell (blk_below (blk_new (w.alloc (Obj.cells #[Value.slice A0 l0.length c0, Value.string a1, Value.bool a2] 24)) (Obj.cells #[Value.int IntKind.i64 0] 3)) HB.out) 0
    simpa using this⟩
  have HF2 : Aside0 (w2.frozen? ⟨w.heap.size + 1, 0, none⟩ = false) := ⟨by
    have := blk_frozen (blk_below (blk_new (w.alloc (Obj.cells #[Value.slice A0 l0.length c0, Value.string a1, Value.bool a2] 24)) (Obj.cells #[Value.int IntKind.i64 0] 3)) HB.out) 0
    simpa using this⟩
  have HW2 : Aside0 (Below w.heap.size w w2) := ⟨(below_alloc (below_alloc (Below.refl _ _) _) _).trans (HB.out.mono (by simp; omega))⟩
  have HZ : Aside0 (w.heap.size + 2 ≤ w2.heap.size) := ⟨Nat.le_trans (by simp) HB.out.size⟩
  refine wpIn_rangeFunc_ownF rfl (by omega) (gf := 125) (lb := #[.pointer (some ⟨Bm, 0, none⟩), .pointer (some ⟨Bn, 0, none⟩)]) rfl trivial (enters_of Tryz.func125 kf rfl)
    (vals_stops _ (by omega) Bm Bn A0 c0 l0 a1 a2 nm HK.out w w2 HV.out) KeepV.t (KeepV.b HW2.out.size (blk_lt HV.out.n)) (Below.refl _ _) (fun _ => rfl)
    (fun pre W => (W.cell? ⟨w.heap.size + 1, 0, none⟩ = some (.int .i64 pre.length) ∧ W.frozen? ⟨w.heap.size + 1, 0, none⟩ = false) ∧ Below w.heap.size w W)
    (fun _ _ _ => False)
    (OwnFrom.and (Own.from (fun s A B row hs hg hr => ⟨cell_kept hs.1 hg hr, (frozen_kept hs.1 hg hr).trans hs.2⟩) _) (ownFrom_below (Nat.le_refl _) HW2.out.size))
    (fun _ _ _ _ _ hs _ _ => hs)
    ⟨⟨HC2.out, HF2.out⟩, HW2.out⟩
    (fun x => { tmps := #[.agg #[.slice A0 l0.length c0, .string a1, .bool a2], .string nm, .pointer (some ⟨w.heap.size, 0, none⟩), undef, .int .i64 0, .pointer (some ⟨w.heap.size + 1, 0, none⟩), .agg #[.slice A0 l0.length c0, .string a1, .bool a2], .string nm, .func (.func 125) #[] #[.pointer (some ⟨Bm, 0, none⟩), .pointer (some ⟨Bn, 0, none⟩)], .string x, undef, undef, undef], defers := [] }) ?assign ?body ?done ?stop
  case assign =>
    intro l x W K hK
    gi_wp2
    simpa using hK
  case body =>
    rintro l pre x W ⟨⟨hc, hf⟩, hB⟩ hlt
    have hp : pre.length ≤ 1000000000000 := by have := HL9.out; omega
    clear hlt
    gi_wp2
    have hne : Bn ≠ w.heap.size + 1 := by have := HBn.out; simp at this; omega
    exact ⟨KeepsOthers.setCell _ _ _, ⟨(Below.refl w.heap.size W).setCell (p := ⟨w.heap.size + 1, 0, none⟩) (by simp) _, Below.heap_setCell _ _ _ _ hne⟩, ⟨by rw [List.length_append]; exact World.cell?_setCell_same' _ _ _ (by rw [hc]; rfl), by rw [World.frozen?_setCell]; exact hf⟩, hB.setCell (p := ⟨w.heap.size + 1, 0, none⟩) (by simp) _⟩
  case done =>
    rintro D ys W hD rfl ⟨⟨hc, _⟩, hB⟩ hK
    gi_wp2
    refine ⟨by simp, .inl ⟨_, _, rfl, run_takeDeferred hK, ?_⟩⟩
    exact ⟨_, results_tmp rfl _ _ _, rfl, hB.trans (belowK_b (w := w) (Nat.le_refl _) W D _ _ (by have := HZ.out; omega) hK rfl rfl)⟩
  case stop =>
    rintro D c pre W _ _ h _
    exact h.elim
end
def head_Message_Count.f (l0 : List S72) (_a1 : ByteArray) (_a2 : Bool) (a3 : ByteArray) : Option Int := if headSelOk l0 a3 then some (headSel l0 a3).length else none
theorem head_Message_Count.calls (A0 : Option Addr) (c0 : Nat) (l0 : List S72) (a1 : ByteArray) (a2 : Bool) (a3 : ByteArray) (r : Int) (w : World) (hr0 : Kd.C k72 w A0 l0.length l0) (hc0 : l0.length ≤ c0) (h : head_Message_Count.f l0 a1 a2 a3 = some r) :
    Calls Tryz.prog 42 #[.agg #[.slice A0 l0.length c0, .string a1, .bool a2], .string a3] w fun e w' => e = .returned (.int .i64 r) ∧ Below w.heap.size w w' := by
  unfold head_Message_Count.f at h
  by_cases hok : headSelOk l0 a3
  · rw [if_pos hok] at h
    obtain rfl := Option.some.inj h
    exact callsIn_wide.1 (count_in A0 c0 l0 a1 a2 a3 hok w hr0 hc0)
  · rw [if_neg hok] at h; cases h


/-! ### guard_Hops: function 15 -/
def guard_Hops.f (l0_0 : List (S72)) (a0_1 : ByteArray) (a0_2 : Bool) : Option (Int) := (head_Message_Count.f l0_0 a0_1 a0_2 (⟨#[82, 101, 99, 101, 105, 118, 101, 100]⟩ : ByteArray)).bind fun t126 => (some t126)
theorem guard_Hops.calls (A0_0 : Option Addr) (c0_0 : Nat) (l0_0 : List (S72)) (a0_1 : ByteArray) (a0_2 : Bool) (r : Int) (w : World) (hr0_0 : Kd.C k72 w A0_0 l0_0.length l0_0) (hc0_0 : l0_0.length ≤ c0_0) (h : guard_Hops.f l0_0 a0_1 a0_2 = some r) :
  Calls Tryz.prog 15 #[.agg #[.slice A0_0 l0_0.length c0_0, .string a0_1, .bool a0_2]] w fun e w' => e = .returned (.int .i64 r) ∧ Below w.heap.size w w' := by
 have hu24 := Tryz.underlying24
 have HR0_0 := Aside0.mk hr0_0
 have HC0_0 := Aside0.mk hc0_0
 clear hr0_0 hc0_0
 have HB := Aside0.mk (Below.refl w.heap.size w)
 have H : ((head_Message_Count.f l0_0 a0_1 a0_2 (⟨#[82, 101, 99, 101, 105, 118, 101, 100]⟩ : ByteArray)).bind fun t126 => (some t126)) = some r := h
 clear h
 obtain ⟨t126, A20, H⟩ := Option.bind_eq_some_iff.mp H
 replace H : (some t126) = some r := H
 have A2 := Aside0.mk A20
 clear A20
 obtain rfl := Option.some.inj H
 go_enter Tryz.func15, Tryz.ntmps15
 go_wp2_with (first | ((with_reducible refine gate_dst (N := 1) rfl ?_); refine box_event ?hg (N := 1) ?hd (cs := #[.slice A0_0 l0_0.length c0_0, .string a0_1, .bool a0_2]) (t := 24) ?hr ?_; (case hd => rfl); (case hg => rfl); (case hr => first | (go_simp; done) | (go_simp; rfl)); intro gb125 hg w3 hbox hb; have BK125 := Aside0.mk (hbox); have GW125 := Aside0.mk (gz hg : w.heap.size ≤ gb125); have GE125 := Aside0.mk (gz hg : w.heap.size ≤ gb125); replace HB := Aside0.mk (below_step bl hb); clear hb hbox hg; have hcz4_0 := cz BK125.out 0 (.slice A0_0 l0_0.length c0_0); have hcz4_1 := cz BK125.out 1 (.string a0_1); have hcz4_2 := cz BK125.out 2 (.bool a0_2); have hfz4_0 := blk_frozen BK125.out 0; have hfz4_1 := blk_frozen BK125.out 1; have hfz4_2 := blk_frozen BK125.out 2) | ((with_reducible refine gate_callee (f := 42) rfl ?_); refine goesL_ (some 4) rfl rfl Tryz.func42 kf rfl #[.agg #[.slice A0_0 l0_0.length c0_0, .string a0_1, .bool a0_2], .string (⟨#[82, 101, 99, 101, 105, 118, 101, 100]⟩ : ByteArray)] rfl ml ?_; (with_reducible refine (head_Message_Count.calls _ _ l0_0 a0_1 a0_2 (⟨#[82, 101, 99, 101, 105, 118, 101, 100]⟩ : ByteArray) t126 _ ?side1 ?side2 A2.out).mono ?_); (case side1 => repeat (first | exact (Kd.C_below HR0_0.out HB.out) | (with_reducible refine Kd.C_alloc ?_ _) | (with_reducible refine Kd.C_drewN ?_ _) | (with_reducible refine Kd.C_drew ?_))); (case side2 => exact HC0_0.out); rintro e w5 ⟨rfl, hb⟩; refine ⟨_, rfl, ?_⟩; replace BK125 := Aside0.mk (kb BK125.out hb); replace HB := Aside0.mk (below_step bl hb); (try clear hb); (try clear hb2); (try clear hk); (try clear hi)))
 go_ret
 exact ⟨rf, bl⟩

/-! ### addr_Normal: function 33 -/
def addr_Normal.f (a0_0 : ByteArray) (a0_1 : ByteArray) : Option (ByteArray × ByteArray) := (text_Lower.f a0_1).bind fun t129 => ((text_Same.f a0_0 (⟨#[112, 111, 115, 116, 109, 97, 115, 116, 101, 114]⟩ : ByteArray)).bind fun t130 => (if t130 = true then (some ((⟨#[112, 111, 115, 116, 109, 97, 115, 116, 101, 114]⟩ : ByteArray), t129)) else (some (a0_0, t129))))
theorem addr_Normal.calls (a0_0 : ByteArray) (a0_1 : ByteArray) (r1 : ByteArray) (r2 : ByteArray) (w : World) (h : addr_Normal.f a0_0 a0_1 = some (r1, r2)) :
  Calls Tryz.prog 33 #[.agg #[.string a0_0, .string a0_1]] w fun e w' => e = .returned (.agg #[.string r1, .string r2]) ∧ Below w.heap.size w w' := by
 have hu50 := Tryz.underlying50
 have HB := Aside0.mk (Below.refl w.heap.size w)
 have H : ((text_Lower.f a0_1).bind fun t129 => ((text_Same.f a0_0 (⟨#[112, 111, 115, 116, 109, 97, 115, 116, 101, 114]⟩ : ByteArray)).bind fun t130 => (if t130 = true then (some ((⟨#[112, 111, 115, 116, 109, 97, 115, 116, 101, 114]⟩ : ByteArray), t129)) else (some (a0_0, t129))))) = some (r1, r2) := h
 clear h
 obtain ⟨t129, A20, H⟩ := Option.bind_eq_some_iff.mp H
 replace H : ((text_Same.f a0_0 (⟨#[112, 111, 115, 116, 109, 97, 115, 116, 101, 114]⟩ : ByteArray)).bind fun t130 => (if t130 = true then (some ((⟨#[112, 111, 115, 116, 109, 97, 115, 116, 101, 114]⟩ : ByteArray), t129)) else (some (a0_0, t129)))) = some (r1, r2) := H
 have A2 := Aside0.mk A20
 clear A20
 obtain ⟨t130, A30, H⟩ := Option.bind_eq_some_iff.mp H
 replace H : (if t130 = true then (some ((⟨#[112, 111, 115, 116, 109, 97, 115, 116, 101, 114]⟩ : ByteArray), t129)) else (some (a0_0, t129))) = some (r1, r2) := H
 have A3 := Aside0.mk A30
 clear A30
 by_cases c4 : t130 = true
 ·subst c4
  replace H : (some ((⟨#[112, 111, 115, 116, 109, 97, 115, 116, 101, 114]⟩ : ByteArray), t129)) = some (r1, r2) := by rw [if_pos rfl] at H; exact H
  simp only [Option.some.injEq, Prod.mk.injEq] at H
  obtain ⟨rfl, rfl⟩ := H
  go_enter Tryz.func33, Tryz.ntmps33
  go_wp2_with (first | ((with_reducible refine gate_dst (N := 1) rfl ?_); refine box_event ?hg (N := 1) ?hd (cs := #[.string a0_0, .string a0_1]) (t := 50) ?hr ?_; (case hd => rfl); (case hg => rfl); (case hr => first | (go_simp; done) | (go_simp; rfl)); intro gb127 hg w5 hbox hb; have BK127 := Aside0.mk (hbox); have GW127 := Aside0.mk (gz hg : w.heap.size ≤ gb127); have GE127 := Aside0.mk (gz hg : w.heap.size ≤ gb127); replace HB := Aside0.mk (below_step bl hb); clear hb hbox hg) | ((with_reducible refine gate_dst (N := 2) rfl ?_); refine box_event ?hg (N := 2) ?hd (cs := #[.string (⟨#[]⟩ : ByteArray), .string (⟨#[]⟩ : ByteArray)]) (t := 50) ?hr ?_; (case hd => rfl); (case hg => rfl); (case hr => first | (go_simp; done) | (go_simp; rfl)); intro gb128 hg w6 hbox hb; have BK128 := Aside0.mk (hbox); have GW128 := Aside0.mk (gz hg : w.heap.size ≤ gb128); have GE128 := Aside0.mk (gz hg : w.heap.size ≤ gb128); replace HB := Aside0.mk (below_step bl hb); have NB127_128 := Aside0.mk (nl hg BK127.out : gb127 ≠ gb128); have NB128_127 := Aside0.mk (ng hg BK127.out : gb128 ≠ gb127); replace BK127 := Aside0.mk (kb BK127.out hb); clear hb hbox hg; have hnb7 := NB127_128.out; have hnc7 := NB128_127.out; have hcz8_0 := cz BK127.out 0 (.string a0_0); have hcz8_1 := cz BK127.out 1 (.string a0_1); have hfz8_0 := blk_frozen BK127.out 0; have hfz8_1 := blk_frozen BK127.out 1) | ((with_reducible refine gate_callee (f := 69) rfl ?_); refine goesL_ (some 5) rfl rfl Tryz.func69 kf rfl #[.string a0_1] rfl ml ?_; (with_reducible refine (text_Lower.calls a0_1 t129 _ A2.out).mono ?_); rintro e w9 ⟨rfl, hb⟩; refine ⟨_, rfl, ?_⟩; replace BK127 := Aside0.mk (kb BK127.out hb); replace BK128 := Aside0.mk (kb BK128.out hb); replace HB := Aside0.mk (below_step bl hb); (try clear hb); (try clear hb2); (try clear hk); (try clear hi); have hcz10_0 := cz BK127.out 0 (.string a0_0); have hcz10_1 := cz BK127.out 1 (.string a0_1); have hfz10_0 := blk_frozen BK127.out 0; have hfz10_1 := blk_frozen BK127.out 1) | ((with_reducible refine gate_callee (f := 70) rfl ?_); refine goesL_ (some 9) rfl rfl Tryz.func70 kf rfl #[.string a0_0, .string (⟨#[112, 111, 115, 116, 109, 97, 115, 116, 101, 114]⟩ : ByteArray)] rfl ml ?_; (with_reducible refine (text_Same.calls a0_0 (⟨#[112, 111, 115, 116, 109, 97, 115, 116, 101, 114]⟩ : ByteArray) true _ A3.out).mono ?_); rintro e w11 ⟨rfl, hb⟩; refine ⟨_, rfl, ?_⟩; replace BK127 := Aside0.mk (blk_below (g := gb127) (o := .cells #[.string a0_0, .string t129] 50 (0, 0)) (by (with_reducible repeat (first | refine blk_drewN ?_ _ | refine blk_drew ?_ | refine blk_alloc ?_ _)); refine blk_put (cs := #[.string a0_0, .string a0_1]) ?_ 1 _ rfl; (with_reducible repeat (first | refine blk_drewN ?_ _ | refine blk_drew ?_ | refine blk_alloc ?_ _)); exact BK127.out) hb); replace BK128 := Aside0.mk (kb BK128.out hb); replace HB := Aside0.mk (below_step bl hb); (try clear hb); (try clear hb2); (try clear hk); (try clear hi); have hcz12_0 := cz BK127.out 0 (.string a0_0); have hcz12_1 := cz BK127.out 1 (.string t129); have hfz12_0 := blk_frozen BK127.out 0; have hfz12_1 := blk_frozen BK127.out 1; have hcz13_0 := cz BK128.out 0 (.string (⟨#[]⟩ : ByteArray)); have hcz13_1 := cz BK128.out 1 (.string (⟨#[]⟩ : ByteArray)); have hfz13_0 := blk_frozen BK128.out 0; have hfz13_1 := blk_frozen BK128.out 1))
  refine bodyPost_ret (results_cell_row rfl _ _ gb128 50 #[.string (⟨#[112, 111, 115, 116, 109, 97, 115, 116, 101, 114]⟩ : ByteArray), .string t129] (0, 0) _ rfl (by (with_reducible repeat (first | refine blk_drewN ?_ _ | refine blk_drew ?_ | refine blk_alloc ?_ _)); refine blk_put (cs := #[.string (⟨#[112, 111, 115, 116, 109, 97, 115, 116, 101, 114]⟩ : ByteArray), .string (⟨#[]⟩ : ByteArray)]) ?_ 1 _ rfl; (with_reducible repeat (first | refine blk_drewN ?_ _ | refine blk_drew ?_ | refine blk_alloc ?_ _)); refine blk_put (cs := #[.string (⟨#[]⟩ : ByteArray), .string (⟨#[]⟩ : ByteArray)]) ?_ 0 _ rfl; (with_reducible repeat (first | refine blk_drewN ?_ _ | refine blk_drew ?_ | refine blk_alloc ?_ _)); refine blk_far ?_ NB128_127.out _; (with_reducible repeat (first | refine blk_drewN ?_ _ | refine blk_drew ?_ | refine blk_alloc ?_ _)); exact BK128.out) Tryz.underlying50 rfl kf) rfl ?_
  exact ⟨rf, bl⟩
 ·replace c4 := Bool.eq_false_iff.mpr c4
  subst c4
  replace H : (some (a0_0, t129)) = some (r1, r2) := by rw [if_neg (show ¬ (false = true) by decide)] at H; exact H
  simp only [Option.some.injEq, Prod.mk.injEq] at H
  obtain ⟨rfl, rfl⟩ := H
  go_enter Tryz.func33, Tryz.ntmps33
  go_wp2_with (first | ((with_reducible refine gate_dst (N := 1) rfl ?_); refine box_event ?hg (N := 1) ?hd (cs := #[.string a0_0, .string a0_1]) (t := 50) ?hr ?_; (case hd => rfl); (case hg => rfl); (case hr => first | (go_simp; done) | (go_simp; rfl)); intro gb127 hg w14 hbox hb; have BK127 := Aside0.mk (hbox); have GW127 := Aside0.mk (gz hg : w.heap.size ≤ gb127); have GE127 := Aside0.mk (gz hg : w.heap.size ≤ gb127); replace HB := Aside0.mk (below_step bl hb); clear hb hbox hg) | ((with_reducible refine gate_dst (N := 2) rfl ?_); refine box_event ?hg (N := 2) ?hd (cs := #[.string (⟨#[]⟩ : ByteArray), .string (⟨#[]⟩ : ByteArray)]) (t := 50) ?hr ?_; (case hd => rfl); (case hg => rfl); (case hr => first | (go_simp; done) | (go_simp; rfl)); intro gb128 hg w15 hbox hb; have BK128 := Aside0.mk (hbox); have GW128 := Aside0.mk (gz hg : w.heap.size ≤ gb128); have GE128 := Aside0.mk (gz hg : w.heap.size ≤ gb128); replace HB := Aside0.mk (below_step bl hb); have NB127_128 := Aside0.mk (nl hg BK127.out : gb127 ≠ gb128); have NB128_127 := Aside0.mk (ng hg BK127.out : gb128 ≠ gb127); replace BK127 := Aside0.mk (kb BK127.out hb); clear hb hbox hg; have hnb16 := NB127_128.out; have hnc16 := NB128_127.out; have hcz17_0 := cz BK127.out 0 (.string a0_0); have hcz17_1 := cz BK127.out 1 (.string a0_1); have hfz17_0 := blk_frozen BK127.out 0; have hfz17_1 := blk_frozen BK127.out 1) | ((with_reducible refine gate_callee (f := 69) rfl ?_); refine goesL_ (some 5) rfl rfl Tryz.func69 kf rfl #[.string a0_1] rfl ml ?_; (with_reducible refine (text_Lower.calls a0_1 t129 _ A2.out).mono ?_); rintro e w18 ⟨rfl, hb⟩; refine ⟨_, rfl, ?_⟩; replace BK127 := Aside0.mk (kb BK127.out hb); replace BK128 := Aside0.mk (kb BK128.out hb); replace HB := Aside0.mk (below_step bl hb); (try clear hb); (try clear hb2); (try clear hk); (try clear hi); have hcz19_0 := cz BK127.out 0 (.string a0_0); have hcz19_1 := cz BK127.out 1 (.string a0_1); have hfz19_0 := blk_frozen BK127.out 0; have hfz19_1 := blk_frozen BK127.out 1) | ((with_reducible refine gate_callee (f := 70) rfl ?_); refine goesL_ (some 9) rfl rfl Tryz.func70 kf rfl #[.string a0_0, .string (⟨#[112, 111, 115, 116, 109, 97, 115, 116, 101, 114]⟩ : ByteArray)] rfl ml ?_; (with_reducible refine (text_Same.calls a0_0 (⟨#[112, 111, 115, 116, 109, 97, 115, 116, 101, 114]⟩ : ByteArray) false _ A3.out).mono ?_); rintro e w20 ⟨rfl, hb⟩; refine ⟨_, rfl, ?_⟩; replace BK127 := Aside0.mk (blk_below (g := gb127) (o := .cells #[.string a0_0, .string t129] 50 (0, 0)) (by (with_reducible repeat (first | refine blk_drewN ?_ _ | refine blk_drew ?_ | refine blk_alloc ?_ _)); refine blk_put (cs := #[.string a0_0, .string a0_1]) ?_ 1 _ rfl; (with_reducible repeat (first | refine blk_drewN ?_ _ | refine blk_drew ?_ | refine blk_alloc ?_ _)); exact BK127.out) hb); replace BK128 := Aside0.mk (kb BK128.out hb); replace HB := Aside0.mk (below_step bl hb); (try clear hb); (try clear hb2); (try clear hk); (try clear hi); have hcz21_0 := cz BK127.out 0 (.string a0_0); have hcz21_1 := cz BK127.out 1 (.string t129); have hfz21_0 := blk_frozen BK127.out 0; have hfz21_1 := blk_frozen BK127.out 1; have hcz22_0 := cz BK128.out 0 (.string (⟨#[]⟩ : ByteArray)); have hcz22_1 := cz BK128.out 1 (.string (⟨#[]⟩ : ByteArray)); have hfz22_0 := blk_frozen BK128.out 0; have hfz22_1 := blk_frozen BK128.out 1))
  refine bodyPost_ret (results_cell_row rfl _ _ gb128 50 #[.string a0_0, .string t129] (0, 0) _ rfl (by (with_reducible repeat (first | refine blk_drewN ?_ _ | refine blk_drew ?_ | refine blk_alloc ?_ _)); refine blk_put (cs := #[.string a0_0, .string (⟨#[]⟩ : ByteArray)]) ?_ 1 _ rfl; (with_reducible repeat (first | refine blk_drewN ?_ _ | refine blk_drew ?_ | refine blk_alloc ?_ _)); refine blk_put (cs := #[.string (⟨#[]⟩ : ByteArray), .string (⟨#[]⟩ : ByteArray)]) ?_ 0 _ rfl; (with_reducible repeat (first | refine blk_drewN ?_ _ | refine blk_drew ?_ | refine blk_alloc ?_ _)); exact BK128.out) Tryz.underlying50 rfl kf) rfl ?_
  exact ⟨rf, bl⟩

/-! ### stringslite_HasPrefix: function 58 -/
def stringslite_HasPrefix.f (a0 : ByteArray) (a1 : ByteArray) : Option (Bool) := if (a0.size : Int) ≥ (a1.size : Int) then (if 0 ≤ (a1.size : Int) then (if (a1.size : Int) ≤ (a0.size : Int) then (some ((a0.extract 0 ((a1.size : Int) : Int).toNat).toList == a1.toList)) else (none)) else (none)) else (some false)
theorem stringslite_HasPrefix.calls (a0 : ByteArray) (a1 : ByteArray) (r : Bool) (w : World) (h : stringslite_HasPrefix.f a0 a1 = some r) :
  Calls Tryz.prog 58 #[.string a0, .string a1] w fun e w' => e = .returned (.bool r) ∧ Drawn0 w w' := by
 have H : (if (a0.size : Int) ≥ (a1.size : Int) then (if 0 ≤ (a1.size : Int) then (if (a1.size : Int) ≤ (a0.size : Int) then (some ((a0.extract 0 ((a1.size : Int) : Int).toNat).toList == a1.toList)) else (none)) else (none)) else (some false)) = some r := h
 clear h
 by_cases c3 : (a0.size : Int) ≥ (a1.size : Int)
 ·rw [if_pos c3] at H
  have c3b0 : decide ((a1.size : Int) ≤ (a0.size : Int)) = true := decide_eq_true c3
  have c3b1 : decide (a1.size ≤ a0.size) = true := decide_eq_true (Int.ofNat_le.mp c3)
  clear c3
  by_cases c4 : 0 ≤ (a1.size : Int)
  rotate_left
  ·rw [if_neg c4] at H
   exact ab H
  rw [if_pos c4] at H
  have c4b0 := eq_true c4
  have c4b1 : decide (0 ≤ (a1.size : Int)) = true := decide_eq_true c4
  clear c4
  by_cases c5 : (a1.size : Int) ≤ (a0.size : Int)
  rotate_left
  ·rw [if_neg c5] at H
   exact ab H
  rw [if_pos c5] at H
  have c5b0 := eq_true c5
  have c5b1 : decide ((a1.size : Int) ≤ (a0.size : Int)) = true := decide_eq_true c5
  clear c5
  obtain rfl := Option.some.inj H
  go_enter Tryz.func58, Tryz.ntmps58
  go_wp2
  go_ret
  exact ⟨by first | rfl | (simp [bneNil]; done) | (simp; done) | (simp [*]; done), dr⟩
 ·rw [if_neg c3] at H
  have c3b0 : decide ((a1.size : Int) ≤ (a0.size : Int)) = false := decide_eq_false c3
  have c3b1 : decide (a1.size ≤ a0.size) = false := decide_eq_false (fun h => c3 (Int.ofNat_le.mpr h))
  clear c3
  obtain rfl := Option.some.inj H
  go_enter Tryz.func58, Tryz.ntmps58
  go_wp2
  go_ret
  exact ⟨by first | rfl | (simp [bneNil]; done) | (simp; done) | (simp [*]; done), dr⟩

/-! ### strings_HasPrefix: function 26 -/
def strings_HasPrefix.f (a0 : ByteArray) (a1 : ByteArray) : Option (Bool) := (stringslite_HasPrefix.f a0 a1).bind fun t131 => (some t131)
theorem strings_HasPrefix.calls (a0 : ByteArray) (a1 : ByteArray) (r : Bool) (w : World) (h : strings_HasPrefix.f a0 a1 = some r) :
  Calls Tryz.prog 26 #[.string a0, .string a1] w fun e w' => e = .returned (.bool r) ∧ Drawn0 w w' := by
 have H : ((stringslite_HasPrefix.f a0 a1).bind fun t131 => (some t131)) = some r := h
 clear h
 obtain ⟨t131, A30, H⟩ := Option.bind_eq_some_iff.mp H
 replace H : (some t131) = some r := H
 have A3 := Aside0.mk A30
 clear A30
 obtain rfl := Option.some.inj H
 go_enter Tryz.func26, Tryz.ntmps26
 go_wp2_with (first | ((with_reducible refine gate_callee (f := 58) rfl ?_); refine goesL_ (some 7) rfl rfl Tryz.func58 kf rfl #[.string a0, .string a1] rfl ml ?_; (with_reducible refine (stringslite_HasPrefix.calls a0 a1 t131 _ A3.out).mono ?_); rintro e w' ⟨rfl, ⟨nd, rfl⟩⟩; refine ⟨_, rfl, ?_⟩))
 go_ret
 exact ⟨by first | rfl | (simp [bneNil]; done) | (simp; done) | (simp [*]; done), dr⟩

/-! ### strings_IndexByte: function 128 (by hand) -/
def strings_IndexByte.f (a0 : ByteArray) (a1 : Int) : Option Int := some (Lib.indexByte a0.data.toList a1.toNat.toUInt8)
theorem strings_IndexByte.calls (a0 : ByteArray) (a1 : Int) (r : Int) (w : World) (h : strings_IndexByte.f a0 a1 = some r) :
    Calls Tryz.prog 128 #[.string a0, .int .u8 a1] w fun e w' => e = .returned (.int .i64 r) ∧ Drawn0 w w' := by
  obtain rfl := Option.some.inj h
  refine (Tryz.strings_IndexByte a0 a1 w).mono ?_
  rintro e w' ⟨rfl, rfl⟩
  exact ⟨rfl, Drawn0.refl _⟩


/-! ### text_Split: function 153 -/
def text_Split.l0 : Nat → ByteArray → Int → List ByteArray → Option (List ByteArray)
 | 0, _, _, _ => none
 | k + 1, x0, x1, x5 => (strings_IndexByte.f x0 x1).bind fun t132 => (if t132 < 0 then (if x5.length < 8796093022208 then (some (x5 ++ [x0])) else (none)) else (if 0 ≤ t132 then (if t132 ≤ (x0.size : Int) then (if x5.length < 8796093022208 then (if 0 ≤ (wrap64 (t132 + 1)) then (if (wrap64 (t132 + 1)) ≤ (x0.size : Int) then (text_Split.l0 k (x0.extract ((wrap64 (t132 + 1)) : Int).toNat x0.size) x1 (x5 ++ [x0.extract 0 (t132 : Int).toNat])) else (none)) else (none)) else (none)) else (none)) else (none)))
def text_Split.f (k : Nat) (a0 : ByteArray) (a1 : Int) : Option (List ByteArray) := text_Split.l0 k a0 a1 ([] : List ByteArray)
theorem text_Split.mono_l : ∀ k, (∀ y0 y1 y2, LeO (text_Split.l0 k y0 y1 y2) (text_Split.l0 (k + 1) y0 y1 y2))
 | 0 => fun _ _ _ r h => by simp [text_Split.l0] at h
 | k + 1 => by
  have ih0 := text_Split.mono_l k
  ·intro y0 y1 y2
   unfold text_Split.l0
   repeat' first
   | (with_reducible first | exact ih0 _ _ _ | exact LeO.refl _ | exact LeO.none _ | refine LeO.ite ?_ ?_ | refine LeO.bind ?_ (fun _ => ?_))
theorem text_Split.mono : ∀ a0 a1 k, LeO (text_Split.f k a0 a1) (text_Split.f (k + 1) a0 a1) := by
 intro a0 a1 k
 have ih0 := text_Split.mono_l k
 unfold text_Split.f
 repeat' first
   | (with_reducible first | exact ih0 _ _ _ | exact LeO.refl _ | exact LeO.none _ | refine LeO.ite ?_ ?_ | refine LeO.bind ?_ (fun _ => ?_))
def text_Split.T5 : Bool × List (List Nat × List Nat) := (true, [([], []), ([], []), ([], []), ([1, 2], [1, 2]), ([3], [3]), ([0, 4], [0, 4]), ([], []), ([], []), ([7], [7]), ([6, 8], [6, 8]), ([5, 5, 0, 1, 2, 3, 4, 5], [0, 5]), ([9, 10, 0, 1, 2, 3, 4, 5, 6, 7, 8, 9, 10], [1, 6, 9])])
def text_Split.B5 : List Nat := [0, 0, 0, 6, 14, 31, 0, 0, 128, 448, 63, 2047]
theorem text_Split.tab5 : rtab .any (opsOf Tryz.f153 5) = text_Split.T5 := by kernel_rfl
theorem text_Split.bits5 : waitsOk text_Split.T5.2 text_Split.B5 = true := by kernel_rfl
theorem text_Split.calls (k : Nat) (a0 : ByteArray) (a1 : Int) (r : List ByteArray) (w : World) (h : text_Split.f k a0 a1 = some r) :
  Calls Tryz.prog 153 #[.string a0, .int .u8 a1] w fun e w' => ∃ v0_ : Value, e = .returned (v0_) ∧ Kd.R Kd.string 9 w' w.heap.size (fun _ => True) v0_ r ∧ Below w.heap.size w w' := by
 have HB := Aside0.mk (Below.refl w.heap.size w)
 have H : (text_Split.l0 k a0 a1 ([] : List ByteArray)) = some r := h
 clear h
 have H' := Aside0.mk H
 clear H
 go_enter Tryz.func153, Tryz.ntmps153
 go_wp2
 go_loopg [0, 5] k (fun kq v0 v5 w' => ∃ (x0_1 : ByteArray) (x5_1 : List ByteArray), v0 = .string x0_1 ∧ Aside0 (text_Split.l0 kq x0_1 a1 x5_1 = some r) ∧ Aside0 (kq ≤ k) ∧ Aside0 (Kd.R Kd.string 9 w' w.heap.size (fun _ => True) v5 x5_1) ∧ Aside0 (Below w.heap.size w w'))
 case atStart => exact ⟨(a0), (([] : List ByteArray)), rs, H', ⟨Nat.le_refl _⟩, ⟨by first | exact Kd.R_nil _ _ _ _ _ | exact Kd.N_nil _ _ _ _ _ | exact Kd.V_nil _ _ _ _ _ | exact Kd.Q_nil _ _ _ _ _ | exact Kd.S_nil _ _ _ _ _⟩, ⟨bl⟩⟩
 case round =>
  clear H'
  try clear c1
  try clear p2
  obtain ⟨x0_1, x5_1, rfl, HA, HK1, HO_5, HB⟩ := hrel
  cases gk with
  | zero => exact absurd HA.out (by simp [text_Split.l0])
  | succ k1 =>
   have H := HA.out
   clear HA
   simp only [text_Split.l0] at H
   obtain ⟨t132, A30, H⟩ := Option.bind_eq_some_iff.mp H
   replace H : (if t132 < 0 then (if x5_1.length < 8796093022208 then (some (x5_1 ++ [x0_1])) else (none)) else (if 0 ≤ t132 then (if t132 ≤ (x0_1.size : Int) then (if x5_1.length < 8796093022208 then (if 0 ≤ (wrap64 (t132 + 1)) then (if (wrap64 (t132 + 1)) ≤ (x0_1.size : Int) then (text_Split.l0 k1 (x0_1.extract ((wrap64 (t132 + 1)) : Int).toNat x0_1.size) a1 (x5_1 ++ [x0_1.extract 0 (t132 : Int).toNat])) else (none)) else (none)) else (none)) else (none)) else (none))) = some r := H
   have A3 := Aside0.mk A30
   clear A30
   by_cases c4 : t132 < 0
   ·rw [if_pos c4] at H
    have c4b0 : decide (t132 < 0) = true := decide_eq_true c4
    clear c4
    by_cases c5 : x5_1.length < 8796093022208
    rotate_left
    ·rw [if_neg c5] at H
     exact ab H
    rw [if_pos c5] at H
    have LMc5 := Aside0.mk c5
    clear c5
    obtain ⟨y133, hy133⟩ : ∃ y_ : List ByteArray, y_ = (x5_1 ++ [x0_1]) := ⟨_, rfl⟩
    replace H : (some y133) = some r := by first | (rw [hy133]; with_reducible exact H) | (have H2_ := (Option.bind_some _ _).symm.trans H; rw [hy133]; with_reducible exact H2_) | (have H2_ := (Option.bind_some _ _).symm.trans H; with_reducible exact H2_) | with_reducible exact H | (rw [hy133]; exact H) | exact H
    have Ny133 := Aside0.mk hy133
    clear hy133
    obtain rfl := Option.some.inj H
    go_wp2_with (first | ((with_reducible refine gate_callee (f := 128) rfl ?_); refine goesL_ (some 9) rfl rfl Tryz.func128 kf rfl #[.string x0_1, .int .u8 a1] rfl ml ?_; (with_reducible refine (strings_IndexByte.calls x0_1 a1 t132 _ A3.out).mono ?_); rintro e w' ⟨rfl, ⟨nd, rfl⟩⟩; refine ⟨_, rfl, ?_⟩) | ((with_reducible refine gate_builtin (b := .append) (xs := #[.tmp 12, .tmp 14]) rfl ?_); at_builtin; refine Kd.R_append Kd.string (w0 := w) w.heap.size rfl (.tmp 12) (.tmp 14) 84 9 (.string ⟨#[]⟩) 16 rfl Tryz.underlying84 info9 rfl (by decide) (by omega) u5 x5_1 x0_1 [.string x0_1] (fun _ => True) (fun _ => False) rfl rfl ?aP (fun _ hk => hk.elim) ?aF ?aO ?aB ?aS ?aL ?_; (case aP => exact rfl); (case aB => exact bl); (case aF => exact (fun _ _ => trivial)); (case aO => exact (kr HO_5.out)); (case aS => exact (below_size bl)); (case aL => have := LMc5.out; omega); intro v134 w6 ho hb hg hat; rw [← Ny133.out] at ho; replace HB := Aside0.mk (hb); have HO135 := Aside0.mk (ho); clear HO_5 ho hb hg hat))
    go_ret
    exact ⟨_, by first | rfl | (simp [errW_none, errW_some] <;> rfl) | (simp [*, errW_none, errW_some] <;> rfl), kr HO135.out, bl⟩
   ·rw [if_neg c4] at H
    have c4b0 : decide (t132 < 0) = false := decide_eq_false c4
    clear c4
    by_cases c7 : 0 ≤ t132
    rotate_left
    ·rw [if_neg c7] at H
     exact ab H
    rw [if_pos c7] at H
    have c7b0 := eq_true c7
    have c7b1 : decide (0 ≤ t132) = true := decide_eq_true c7
    clear c7
    by_cases c8 : t132 ≤ (x0_1.size : Int)
    rotate_left
    ·rw [if_neg c8] at H
     exact ab H
    rw [if_pos c8] at H
    have c8b0 := eq_true c8
    have c8b1 : decide (t132 ≤ (x0_1.size : Int)) = true := decide_eq_true c8
    clear c8
    by_cases c9 : x5_1.length < 8796093022208
    rotate_left
    ·rw [if_neg c9] at H
     exact ab H
    rw [if_pos c9] at H
    have LMc9 := Aside0.mk c9
    clear c9
    obtain ⟨y136, hy136⟩ : ∃ y_ : List ByteArray, y_ = (x5_1 ++ [x0_1.extract 0 (t132 : Int).toNat]) := ⟨_, rfl⟩
    replace H : (if 0 ≤ (wrap64 (t132 + 1)) then (if (wrap64 (t132 + 1)) ≤ (x0_1.size : Int) then (text_Split.l0 k1 (x0_1.extract ((wrap64 (t132 + 1)) : Int).toNat x0_1.size) a1 y136) else (none)) else (none)) = some r := by first | (rw [hy136]; with_reducible exact H) | (have H2_ := (Option.bind_some _ _).symm.trans H; rw [hy136]; with_reducible exact H2_) | (have H2_ := (Option.bind_some _ _).symm.trans H; with_reducible exact H2_) | with_reducible exact H | (rw [hy136]; exact H) | exact H
    have Ny136 := Aside0.mk hy136
    clear hy136
    obtain ⟨ji10, hji10⟩ : ∃ j_ : Int, (wrap64 (t132 + 1)) = j_ := ⟨_, rfl⟩
    replace H : (if 0 ≤ (ji10) then (if (ji10) ≤ (x0_1.size : Int) then (text_Split.l0 k1 (x0_1.extract ((ji10) : Int).toNat x0_1.size) a1 y136) else (none)) else (none)) = some r := by first | (rw [hji10] at H; exact H) | (simp only [hji10] at H ⊢; exact H)
    (try rw [hji10] at A3)
    have hji10w : (IntKind.i64.wrap (t132 + 1)) = ji10 := (i64_w _).trans hji10
    by_cases c11 : 0 ≤ (ji10)
    rotate_left
    ·rw [if_neg c11] at H
     exact ab H
    rw [if_pos c11] at H
    have c11b0 := eq_true c11
    have c11b1 : decide (0 ≤ (ji10)) = true := decide_eq_true c11
    clear c11
    by_cases c12 : (ji10) ≤ (x0_1.size : Int)
    rotate_left
    ·rw [if_neg c12] at H
     exact ab H
    rw [if_pos c12] at H
    have c12b0 := eq_true c12
    have c12b1 : decide ((ji10) ≤ (x0_1.size : Int)) = true := decide_eq_true c12
    clear c12
    have H' := Aside0.mk H
    clear H
    try go_wp2_with (first | ((with_reducible refine gate_callee (f := 128) rfl ?_); refine goesL_ (some 9) rfl rfl Tryz.func128 kf rfl #[.string x0_1, .int .u8 a1] rfl ml ?_; (with_reducible refine (strings_IndexByte.calls x0_1 a1 t132 _ A3.out).mono ?_); rintro e w' ⟨rfl, ⟨nd, rfl⟩⟩; refine ⟨_, rfl, ?_⟩))
    (try (rw [drewN_self wr]; generalize hq_ : World.drewN wr _ = wr; have n0_ : Aside0 (Kd.R Kd.string 9 wr w.heap.size (fun _ => True) u5 x5_1) := ⟨by rw [← hq_]; exact (kr HO_5.out)⟩; have n1_ : Aside0 (Below w.heap.size w wr) := ⟨by rw [← hq_]; exact bl⟩; clear HO_5 HB hq_; have HO_5 := n0_; have HB := n1_; clear n0_ n1_))
    replace HO_5 := Aside0.mk (Kd.R_drew HO_5.out)
    replace HB := Aside0.mk (below_drew1 HB.out)
    refine start_ (n := 12) (S := fun w' => True) (ds := []) #[false, false, false, false, false, false, false, false, false, false, false, false] kf rfl rfl trivial (fun hHeld => ?_); refine with_tabW text_Split.tab5 text_Split.bits5 (fun HT_ HW_ => ?_)
    generalize wr.drew = w13 at HO_5 HB hHeld ⊢
    refine pure_ (i := 0) (N := some 16) (v := ?_) (a' := ?_) #[true, false, false, false, false, false, false, false, false, false, false, false] rfl rfl (any_of HT_.out kf) (fun _ _ _ h => h) (Or.inl ⟨by rfl, ?_⟩) ?_ ?_
    rotate_left
    ·intro w'
     go_simp
     with_reducible rfl
    rotate_left
    ·simp only [Act.put, sA, sB, sC, i64_w, i32_w]
     rfl
    refine pure_ (i := 1) (N := some 17) (v := ?_) (a' := ?_) #[true, true, false, false, false, false, false, false, false, false, false, false] rfl rfl (any_of HT_.out kf) (fun _ _ _ h => h) (Or.inl ⟨by rfl, ?_⟩) ?_ ?_
    rotate_left
    ·intro w'
     go_simp
     with_reducible rfl
    rotate_left
    ·simp only [Act.put, sA, sB, sC, i64_w, i32_w]
     rfl
    refine pure_ (i := 2) (N := some 18) (v := ?_) (a' := ?_) #[true, true, true, false, false, false, false, false, false, false, false, false] rfl rfl (any_of HT_.out kf) (fun _ _ _ h => h) (Or.inl ⟨by rfl, ?_⟩) ?_ ?_
    rotate_left
    ·intro w'
     go_simp
     with_reducible rfl
    rotate_left
    ·simp only [Act.put, sA, sB, sC, i64_w, i32_w]
     rfl
    refine pure_ (i := 3) (N := some 19) (v := ?_) (a' := ?_) #[true, true, true, true, false, false, false, false, false, false, false, false] rfl rfl (any_of HT_.out kf) (fun _ _ _ h => h) (Or.inl ⟨by rfl, ?_⟩) ?_ ?_
    rotate_left
    ·intro w'
     go_simp
     with_reducible rfl
    rotate_left
    ·simp only [Act.put, sA, sB, sC, i64_w, i32_w]
     rfl
    refine pure_ (i := 6) (N := some 22) (v := ?_) (a' := ?_) #[true, true, true, true, false, false, true, false, false, false, false, false] rfl rfl (any_of HT_.out kf) (fun _ _ _ h => h) (Or.inl ⟨by rfl, ?_⟩) ?_ ?_
    rotate_left
    ·intro w'
     go_simp
     with_reducible rfl
    rotate_left
    ·simp only [Act.put, sA, sB, sC, i64_w, i32_w]
     rfl
    refine pure_ (i := 7) (N := some 23) (v := ?_) (a' := ?_) #[true, true, true, true, false, false, true, true, false, false, false, false] rfl rfl (any_of HT_.out kf) (fun _ _ _ h => h) (Or.inl ⟨by rfl, ?_⟩) ?_ ?_
    rotate_left
    ·intro w'
     go_simp
     with_reducible rfl
    rotate_left
    ·simp only [Act.put, sA, sB, sC, i64_w, i32_w]
     rfl
    refine pure_ (i := 8) (N := some 24) (v := ?_) (a' := ?_) #[true, true, true, true, false, false, true, true, true, false, false, false] rfl rfl (any_of HT_.out kf) (fun _ _ _ h => h) (Or.inl ⟨by rfl, ?_⟩) ?_ ?_
    rotate_left
    ·intro w'
     go_simp
     with_reducible rfl
    rotate_left
    ·simp only [Act.put, sA, sB, sC, i64_w, i32_w]
     rfl
    refine pure_ (i := 9) (N := some 25) (v := ?_) (a' := ?_) #[true, true, true, true, false, false, true, true, true, true, false, false] rfl rfl (any_of HT_.out kf) (fun _ _ _ h => h) (Or.inl ⟨by rfl, ?_⟩) ?_ ?_
    rotate_left
    ·intro w'
     go_simp
     with_reducible rfl
    rotate_left
    ·simp only [Act.put, sA, sB, sC, i64_w, i32_w]
     rfl
    refine one_ (i := 4) (N := some 20) #[true, true, true, true, true, false, true, true, true, true, false, false] rfl rfl (one_of HT_.out kf) (by decide) (fun K hK => ?_)
    refine value_ (w1 := ?_) (v := ?_) (by rfl) rfl ?_ ?_
    rotate_left 2
    ·go_simp
     constructor
     ·rfl
     ·rfl
    refine hK.out _ _ trivial (fun hHeld => ?_)
    clear hK K
    refine norm_ (a' := ?_) ?_ ?_
    rotate_left
    ·show Act.put _ (some 20) _ = _
     simp only [Act.put, sA, sB, sC, i64_w, i32_w]
     rfl
    refine one_ (i := 5) (N := some 21) #[true, true, true, true, true, true, true, true, true, true, false, false] rfl rfl (one_of HT_.out kf) (by decide) (fun K hK => ?_)
    refine Kd.R_append_step Kd.string (w0 := w) w.heap.size (by rfl) (.tmp 16) (.tmp 20) 84 9 (.string ⟨#[]⟩) 16 rfl Tryz.underlying84 info9 rfl (by decide) (by omega) u5 x5_1 (x0_1.extract 0 (t132 : Int).toNat) [.string (x0_1.extract 0 (t132 : Int).toNat)] (fun _ => True) (fun _ => False) rfl rfl ?aP (fun _ hk => hk.elim) ?aF ?aO ?aB ?aS ?aL ?_
    (case aP => exact rfl)
    (case aB => exact bl)
    (case aF => exact (fun _ _ => trivial))
    (case aO => exact (kr HO_5.out))
    (case aS => exact (below_size bl))
    (case aL => have := LMc9.out; omega)
    intro v137 w14 ho hb hg hat
    rw [← Ny136.out] at ho
    replace HB := Aside0.mk (hb)
    have HO138 := Aside0.mk (ho)
    clear HO_5 ho hb hg hat
    refine hK.out _ _ trivial (fun hHeld => ?_)
    clear hK K
    refine norm_ (a' := ?_) ?_ ?_
    rotate_left
    ·show Act.put _ (some 21) _ = _
     simp only [Act.put, sA, sB, sC, i64_w, i32_w]
     rfl
    refine pure_ (i := 10) (N := some 5) (v := ?_) (a' := ?_) #[true, true, true, true, true, true, true, true, true, true, true, false] rfl rfl (any_of HT_.out kf) (fun _ _ _ h => h) (Or.inl ⟨by rfl, ?_⟩) ?_ ?_
    rotate_left
    ·intro w'
     go_simp
     with_reducible rfl
    rotate_left
    ·simp only [Act.put, sA, sB, sC, i64_w, i32_w]
     rfl
    refine pure_ (i := 11) (N := some 0) (v := ?_) (a' := ?_) #[true, true, true, true, true, true, true, true, true, true, true, true] rfl rfl (any_of HT_.out kf) (fun _ _ _ h => h) (Or.inl ⟨by rfl, ?_⟩) ?_ ?_
    rotate_left
    ·intro w'
     go_simp
     with_reducible rfl
    rotate_left
    ·simp only [Act.put, sA, sB, sC, i64_w, i32_w]
     rfl
    refine done_ (done_of HT_.out kf) ?_
    try go_wp2
    go_roundg k1
    case measure => have := HK1.out; omega
    case rel => exact ⟨(x0_1.extract ((ji10) : Int).toNat x0_1.size), (y136), (by first | rfl | (simp; done) | (simp only [← hji10] <;> (first | rfl | simp)) | (simp [*]; done)), H', ⟨by have := HK1.out; omega⟩, ⟨kr HO138.out⟩, ⟨bl⟩⟩

/-! ### text_atomic: function 189 (by hand) -/
def letL : List UInt8 := [33, 35, 36, 37, 38, 39, 42, 43, 45, 47, 61, 63, 94, 95, 96, 123, 124, 125, 126]
def letN (n : Nat) : Bool := (decide (97 ≤ n) && decide (n ≤ 122)) || (decide (65 ≤ n) && decide (n ≤ 90)) || (decide (48 ≤ n) && decide (n ≤ 57)) || letL.any fun c => c.toNat == n
def text_atomic.f (a0 : Int) : Option Bool := if 0 ≤ a0 then (if a0 ≤ 255 then some (letN a0.toNat) else none) else none
theorem let_tab0 : ∀ n, n < 32 → letN n = false := by decide +kernel
theorem let_tab1 : ∀ n, n < 32 → ((Go.bits .and .u32 (2751442170 / 2 ^ n) 1 == 1) = letN (32 + n)) := by decide +kernel
theorem let_tab2 : ∀ n, n < 32 → ((Go.bits .and .u32 (3355443198 / 2 ^ n) 1 == 1) = letN (64 + n)) := by decide +kernel
theorem let_tab3 : ∀ n, n < 32 → ((Go.bits .and .u32 (2147483647 / 2 ^ n) 1 == 1) = letN (96 + n)) := by decide +kernel
theorem let_high : ∀ n, 128 ≤ n → letN n = false := by
  intro n h
  unfold letN letL
  simp
  omega
theorem text_atomic.calls (a0 : Int) (r : Bool) (w : World) (hG : Glob w) (h : text_atomic.f a0 = some r) :
    Calls Tryz.prog 189 #[.int .u8 a0] w fun e w' => e = .returned (.bool r) ∧ Drawn0 w w' := by
  unfold text_atomic.f at h
  by_cases h0 : 0 ≤ a0
  · rw [if_pos h0] at h
    by_cases h1 : a0 ≤ 255
    · rw [if_pos h1] at h
      obtain ⟨n, rfl⟩ := Int.eq_ofNat_of_zero_le h0
      rw [Int.toNat_natCast] at h
      have hr := Lib.hid (Option.some.inj h)
      clear h
      have g0 := hG.a0
      have g1 := hG.a1
      have g2 := hG.a2
      have g3 := hG.a3
      clear hG
      by_cases hn : n < 128
      · have hb : decide ((n : Int) < 128) = true := decide_eq_true (by omega)
        have hcase : n / 32 = 0 ∨ n / 32 = 1 ∨ n / 32 = 2 ∨ n / 32 = 3 := by omega
        rcases hcase with hq | hq | hq | hq
        · have hl : letN n = false := let_tab0 n (by omega)
          rw [hl] at hr
          go_enter Tryz.func189, Tryz.ntmps189
          go_wp2
          go_ret
          refine ⟨?_, Drawn0.refl _⟩
          rw [← hr.out]
          rfl
        · have hl : letN n = (Go.bits .and .u32 (2751442170 / 2 ^ (n % 32)) 1 == 1) := by rw [let_tab1 _ (Nat.mod_lt _ (by omega))]; congr 1; omega
          rw [hl] at hr
          go_enter Tryz.func189, Tryz.ntmps189
          go_wp2
          go_ret
          refine ⟨?_, Drawn0.refl _⟩
          rw [← hr.out]
          rfl
        · have hl : letN n = (Go.bits .and .u32 (3355443198 / 2 ^ (n % 32)) 1 == 1) := by rw [let_tab2 _ (Nat.mod_lt _ (by omega))]; congr 1; omega
          rw [hl] at hr
          go_enter Tryz.func189, Tryz.ntmps189
          go_wp2
          go_ret
          refine ⟨?_, Drawn0.refl _⟩
          rw [← hr.out]
          rfl
        · have hl : letN n = (Go.bits .and .u32 (2147483647 / 2 ^ (n % 32)) 1 == 1) := by rw [let_tab3 _ (Nat.mod_lt _ (by omega))]; congr 1; omega
          rw [hl] at hr
          go_enter Tryz.func189, Tryz.ntmps189
          go_wp2
          go_ret
          refine ⟨?_, Drawn0.refl _⟩
          rw [← hr.out]
          rfl
      · have hb : decide ((n : Int) < 128) = false := decide_eq_false (by omega)
        rw [let_high n (by omega)] at hr
        go_enter Tryz.func189, Tryz.ntmps189
        go_wp2
        go_ret
        refine ⟨?_, Drawn0.refl _⟩
        rw [← hr.out]
        rfl
    · rw [if_neg h1] at h; cases h
  · rw [if_neg h0] at h; cases h


/-! ### text_Atom: function 155 (by hand) -/
def letC (c : UInt8) : Bool := letN c.toNat
def atomB (s : ByteArray) : Bool := !s.data.toList.isEmpty && s.data.toList.all letC
def text_Atom.f (a0 : ByteArray) : Option Bool := if a0.size < 70368744177000 then some (atomB a0) else none
theorem bytes_cell_at2 {W w1 : World} {g e : Nat} {s : ByteArray} {C : Array Value} {fz : Nat × Nat} (h : W.heap[g]? = some (.cells C e fz)) (hC : C = Lib.bytesCells w1 e s) (j : Nat) (hj : j < s.size) : W.cell? ⟨g, j, none⟩ = some (.int .u8 ((s[j]'hj).toNat : Nat)) := by
  subst hC
  simp [World.cell?, h, Lib.bytesCells, Array.getElem?_append, hj]
  rfl
theorem atom_not (c : Nat) (hc : c < 256) (w : World) (hG : Glob w) :
    Calls Tryz.prog 188 #[.int .u8 c] w fun e w' => e = .returned (.bool (!letN c)) ∧ Drawn0 w w' := by
  have hf : text_atomic.f (c : Int) = some (letN c) := by unfold text_atomic.f; rw [if_pos (by omega), if_pos (by omega), Int.toNat_natCast]
  have Hf := Lib.hid hf
  clear hf
  have HG := Lib.hid hG
  clear hG
  generalize letN c = b at Hf ⊢
  go_enter Tryz.func188, Tryz.ntmps188
  go_wp2_with (go_at_call 189; refine (text_atomic.calls (c : Int) b _ HG.out Hf.out).mono ?_; rintro e w1 ⟨rfl, ⟨nd, rfl⟩⟩)
  go_ret
  exact ⟨rfl, ⟨nd, rfl⟩⟩
/-- What IndexFunc tells here. -/
def AtomIdx (s : ByteArray) (w : World) (e : Ending) (w' : World) : Prop := ∃ r : Int, e = .returned (.int .i64 r) ∧ decide (0 ≤ r) = !s.data.toList.all letC ∧ Drawn0 w w'
theorem all_take (s : ByteArray) (k : Nat) (h : k < s.size) (p : UInt8 → Bool) : (s.data.toList.take (k + 1)).all p = ((s.data.toList.take k).all p && p (s[k]'h)) := by
  rw [List.take_succ_eq_append_getElem (by simpa using h), List.all_append]
  simp
  rfl
theorem all_not (s : ByteArray) (k : Nat) (h : k < s.size) (p : UInt8 → Bool) (hb : p (s[k]'h) = false) : s.data.toList.all p = false := by
  rw [Bool.eq_false_iff]
  intro ha
  rw [List.all_eq_true] at ha
  have := ha (s[k]'h) (by
    have h' : k < s.data.toList.length := by simpa using h
    have e : s.data.toList[k]'h' = s[k]'h := by simp; rfl
    rw [← e]; exact List.getElem_mem h')
  rw [hb] at this
  cases this
theorem atom_idx (s : ByteArray) (hs : s.size ≤ 70368744177000) (g cap : Nat) (fz : Nat × Nat) (C : Array Value) (w1 w : World) (hC : C = Lib.bytesCells w1 5 s) (hh : w.heap[g]? = some (.cells C 5 fz)) (hG : Glob w) :
    Calls Tryz.prog 205 #[.slice (some ⟨g, 0, none⟩) s.size cap, .func (.func 188) #[] #[]] w (AtomIdx s w) := by
  have HC := Lib.hid hC
  have HH := Lib.hid hh
  have HG := Lib.hid hG
  clear hC hh hG
  go_enter Tryz.func205, Tryz.ntmps205
  go_wp2
  go_loopw [8] (fun v8 w' => ∃ k : Nat, v8 = .int .i64 k ∧ k ≤ s.size ∧ Aside0 ((s.data.toList.take k).all letC = true) ∧ Drawn0 w w') (fun v8 _ => s.size - (intOf v8).toNat)
  case atStart => exact ⟨0, rfl, Nat.zero_le _, ⟨rfl⟩, Drawn0.refl _⟩
  case round =>
    obtain ⟨k, rfl, hk, Hall, ⟨nd, rfl⟩⟩ := hrel
    by_cases hlt : k < s.size
    · have hcell : (w.drewN nd).cell? ⟨g, k, none⟩ = some (.int .u8 ((s[k]'hlt).toNat : Nat)) := bytes_cell_at2 (W := w.drewN nd) HH.out HC.out k hlt
      have hst := Lib.hid (all_take s k hlt letC)
      have hnt := Lib.hid (all_not s k hlt letC)
      have hc256 : (s[k]'hlt).toNat < 256 := UInt8.toNat_lt _
      unfold letC at hst hnt
      obtain ⟨c, hc⟩ : ∃ c : Nat, c = (s[k]'hlt).toNat := ⟨_, rfl⟩
      rw [← hc] at hcell hc256 hst hnt
      clear hc
      cases hb : letN c with
      | true =>
        have Hb := Lib.hid hb
        clear hb
        have HGd : Hid (Glob (w.drewN nd)) := Lib.hid (HG.out.drawn ⟨nd, rfl⟩)
        go_wp2_with (refine (atom_not c hc256 _ HGd.out).mono ?_; rw [Hb.out]; rintro e w1 ⟨rfl, ⟨nd2, rfl⟩⟩)
        go_roundw
        case rel => exact ⟨k + 1, by go_num, hlt, ⟨by have := hst.out; rw [Hb.out] at this; unfold letC at Hall ⊢; rw [this, Hall.out]; rfl⟩, ⟨⟨_, rfl⟩⟩⟩
        case measure => simp [intOf]; omega
      | false =>
        have Hb := Lib.hid hb
        clear hb
        have HGd : Hid (Glob (w.drewN nd)) := Lib.hid (HG.out.drawn ⟨nd, rfl⟩)
        go_wp2_with (refine (atom_not c hc256 _ HGd.out).mono ?_; rw [Hb.out]; rintro e w1 ⟨rfl, ⟨nd2, rfl⟩⟩)
        go_ret
        refine ⟨(k : Int), rfl, ?_, ⟨⟨_, rfl⟩⟩⟩
        unfold letC
        rw [hnt.out Hb.out]
        exact decide_eq_true (by omega)
    · go_wp2
      go_ret
      have e : k = s.size := by omega
      subst e
      have := Hall.out
      rw [List.take_of_length_le (by simp)] at this
      refine ⟨-1, rfl, ?_, ⟨⟨nd, rfl⟩⟩⟩
      rw [this]; rfl
theorem atom_has (s : ByteArray) (hs : s.size ≤ 70368744177000) (g cap : Nat) (fz : Nat × Nat) (C : Array Value) (w1 w : World) (hC : C = Lib.bytesCells w1 5 s) (hh : w.heap[g]? = some (.cells C 5 fz)) (hG : Glob w) :
    Calls Tryz.prog 187 #[.slice (some ⟨g, 0, none⟩) s.size cap, .func (.func 188) #[] #[]] w fun e w' => e = .returned (.bool (!s.data.toList.all letC)) ∧ Drawn0 w w' := by
  have HI := Lib.hid (atom_idx s hs g cap fz C w1 w hC hh hG)
  clear hC hh hG
  generalize ha : s.data.toList.all letC = b
  have Ha := Lib.hid ha
  clear ha
  go_enter Tryz.func187, Tryz.ntmps187
  go_wp2_with (go_at_call 205; refine HI.out.mono ?_; rintro e w1 ⟨i, rfl, hi, ⟨nd, rfl⟩⟩; rw [Ha.out] at hi)
  go_ret
  exact ⟨by simp [hi], ⟨nd, rfl⟩⟩
theorem text_Atom.calls (a0 : ByteArray) (r : Bool) (w : World) (hG : Glob w) (h : text_Atom.f a0 = some r) :
    Calls Tryz.prog 155 #[.string a0] w fun e w' => e = .returned (.bool r) ∧ Below w.heap.size w w' := by
  unfold text_Atom.f at h
  by_cases hsz : a0.size < 70368744177000
  · rw [if_pos hsz] at h
    have hr := Lib.hid (Option.some.inj h)
    clear h
    by_cases he : a0.toList = ([] : List UInt8)
    · have hb : (a0.toList == ([] : List UInt8)) = true := beq_iff_eq.mpr he
      have hb2 : (a0.toList != ([] : List UInt8)) = false := bne_eq_false_iff_eq.mpr he
      have hb3 : a0.toList.isEmpty = true := by rw [he]; rfl
      have hf : atomB a0 = false := by
        unfold atomB; rw [← ByteArray.toList_eq, he]; rfl
      rw [hf] at hr
      clear he hf
      go_enter Tryz.func155, Tryz.ntmps155
      go_wp2
      go_ret
      exact ⟨by rw [← hr.out]; rfl, Below.refl _ _⟩
    · have hb : (a0.toList == ([] : List UInt8)) = false := beq_eq_false_iff_ne.mpr he
      have hb2 : (a0.toList != ([] : List UInt8)) = true := bne_iff_ne.mpr he
      have hb3 : a0.toList.isEmpty = false := by cases h : a0.toList <;> simp_all
      have hf : atomB a0 = !(!a0.data.toList.all letC) := by
        unfold atomB; rw [← ByteArray.toList_eq, hb3, ByteArray.toList_eq]; simp
      rw [hf] at hr
      clear he hf
      have hcv := fun W => print_bytes (P := Tryz.prog) 9 102 5 Tryz.underlying9 Tryz.underlying102 Tryz.underlying5 a0 W
      have HB := Lib.hid (bytes_below (Below.refl w.heap.size w) (Nat.le_refl _) 5 a0)
      have HA := Lib.hid (atom_has a0 (by omega) w.heap.size (grownCap w a0.size 0 5) _ _ w _ rfl (Lib.bytesWorld_at_new w 5 a0) (hG.below HB.out))
      clear hG
      generalize (!a0.data.toList.all letC) = b at HA hr
      go_enter Tryz.func155, Tryz.ntmps155
      go_wp2_with (go_at_call 187; refine HA.out.mono ?_; rintro e w1 ⟨rfl, ⟨nd, rfl⟩⟩)
      go_ret
      exact ⟨by rw [← hr.out]; rfl, pw_below_drewN HB.out _⟩
  · rw [if_neg hsz] at h; cases h


end Go.Proofs.YtacjnapgdikhbaaGreatDoor.Q
end
section
namespace Go.Proofs.YtacjnapgdikhbaaGreatDoor.Q

theorem eqA50 (d : Nat) (w : World) (x0 y0 : ByteArray) (x1 y1 : ByteArray) :
    (Op.equalIn (d + 2) 50 (.agg #[.string x0, .string x1]) (.agg #[.string y0, .string y1])).run Tryz.prog w = .ok (x0.toList == y0.toList && (x1.toList == y1.toList)) w := by
  refine eqA_of Tryz.underlying50 kf ?_
  refine eqf_cons (by rfl) (by go_simp; rfl) (by go_simp; rfl) (by go_simp) ?_
  exact eqf_last (by rfl) (by go_simp; rfl) (by go_simp; rfl) (by go_simp)
end Go.Proofs.YtacjnapgdikhbaaGreatDoor.Q
end
section
namespace Go.Proofs.YtacjnapgdikhbaaGreatDoor.Q

/-! ### text_DotAtom: function 103 (by hand) -/
def dotAll (l : List ByteArray) : Bool := l.all atomB
def dotSmall (l : List ByteArray) : Bool := l.all fun x => decide (x.size < 70368744177000)
def text_DotAtom.f (k : Nat) (a0 : ByteArray) : Option Bool := (text_Split.f k a0 46).bind fun t => if dotSmall t = true then some (dotAll t) else none
theorem text_DotAtom.mono : ∀ a0 k, LeO (text_DotAtom.f k a0) (text_DotAtom.f (k + 1) a0) := fun a0 k => LeO.bind (text_Split.mono _ _ k) (fun _ => LeO.refl _)
theorem dot_not (s : ByteArray) (hs : s.size < 70368744177000) (w : World) (hG : Glob w) :
    Calls Tryz.prog 154 #[.string s] w fun e w' => e = .returned (.bool (!atomB s)) ∧ Below w.heap.size w w' := by
  have hf : text_Atom.f s = some (atomB s) := by unfold text_Atom.f; rw [if_pos hs]
  have Hf := Lib.hid hf
  clear hf
  have HG := Lib.hid hG
  clear hG
  generalize atomB s = b at Hf ⊢
  go_enter Tryz.func154, Tryz.ntmps154
  go_wp2_with (go_at_call 155; refine (text_Atom.calls s b _ HG.out Hf.out).mono ?_; rintro e w1 ⟨rfl, hb⟩)
  go_ret
  exact ⟨rfl, hb⟩
def DotIdx (l : List ByteArray) (w : World) (e : Ending) (w' : World) : Prop := ∃ r : Int, e = .returned (.int .i64 r) ∧ decide (0 ≤ r) = !dotAll l ∧ Below w.heap.size w w'
theorem dot_take (l : List ByteArray) (k : Nat) (h : k < l.length) : dotAll (l.take (k + 1)) = (dotAll (l.take k) && atomB l[k]) := by
  unfold dotAll
  rw [List.take_succ_eq_append_getElem h, List.all_append]
  simp
theorem dot_no (l : List ByteArray) (k : Nat) (h : k < l.length) (hb : atomB l[k] = false) : dotAll l = false := by
  unfold dotAll
  rw [Bool.eq_false_iff]
  intro ha
  have := List.all_eq_true.1 ha l[k] (List.getElem_mem h)
  rw [hb] at this
  cases this
theorem dot_idx (l : List ByteArray) (hs : dotSmall l = true) (hl : l.length ≤ 9223372036854775807) (A : Option Addr) (c : Nat) (w : World) (hC : ReadsOf Value.string ByteArray.empty w A l.length l) (hG : Glob w) :
    Calls Tryz.prog 140 #[.slice A l.length c, .func (.func 154) #[] #[]] w (DotIdx l w) := by
  have HS := Lib.hid hs
  have HC := Lib.hid hC
  have HG := Lib.hid hG
  clear hs hC hG
  go_enter Tryz.func140, Tryz.ntmps140
  go_wp2
  go_loopw [8] (fun v8 w' => ∃ k : Nat, v8 = .int .i64 k ∧ k ≤ l.length ∧ Aside0 (dotAll (l.take k) = true) ∧ Aside0 (Below w.heap.size w w')) (fun v8 _ => l.length - (intOf v8).toNat)
  case atStart => exact ⟨0, rfl, Nat.zero_le _, ⟨rfl⟩, ⟨Below.refl _ _⟩⟩
  case round =>
    obtain ⟨k, rfl, hk, Hall, HB⟩ := hrel
    by_cases hlt : k < l.length
    · obtain ⟨ad, hA, hcell⟩ := (HC.out.below HB.out).at_ (k : Int) (by omega) (by omega)
      rw [Int.toNat_natCast] at hcell
      have ex : rdOf ByteArray.empty l (k : Int) = l[k]'hlt := by simp [rdOf, hlt]
      rw [ex] at hcell
      clear ex
      have hst := Lib.hid (dot_take l k hlt)
      have hnt := Lib.hid (dot_no l k hlt)
      have hsm : (l[k]'hlt).size < 70368744177000 := by
        have := List.all_eq_true.1 HS.out (l[k]'hlt) (List.getElem_mem hlt)
        simpa using this
      obtain ⟨x, hx⟩ : ∃ x : ByteArray, x = l[k]'hlt := ⟨_, rfl⟩
      rw [← hx] at hcell hst hnt hsm
      clear hx
      have HGw : Hid (Glob wr) := Lib.hid (HG.out.below HB.out)
      have HSm := Lib.hid hsm
      clear hsm
      cases hb : atomB x with
      | true =>
        have Hb := Lib.hid hb
        clear hb
        subst hA
        go_wp2_with (refine (dot_not x HSm.out _ HGw.out).mono ?_; rw [Hb.out]; rintro e w1 ⟨rfl, hb1⟩; have HB1 := Lib.hid hb1; clear hb1)
        go_roundw
        case rel => exact ⟨k + 1, by go_num, hlt, ⟨by rw [hst.out, Hall.out, Hb.out]; rfl⟩, ⟨HB.out.trans (HB1.out.mono HB.out.size)⟩⟩
        case measure => simp [intOf]; omega
      | false =>
        have Hb := Lib.hid hb
        clear hb
        subst hA
        go_wp2_with (refine (dot_not x HSm.out _ HGw.out).mono ?_; rw [Hb.out]; rintro e w1 ⟨rfl, hb1⟩; have HB1 := Lib.hid hb1; clear hb1)
        go_ret
        refine ⟨(k : Int), rfl, ?_, HB.out.trans (HB1.out.mono HB.out.size)⟩
        rw [hnt.out Hb.out]
        exact decide_eq_true (by omega)
    · go_wp2
      go_ret
      have e : k = l.length := by omega
      subst e
      have := Hall.out
      rw [List.take_of_length_le (Nat.le_refl _)] at this
      refine ⟨-1, rfl, ?_, HB.out⟩
      rw [this]; rfl
theorem dot_has (l : List ByteArray) (hs : dotSmall l = true) (hl : l.length ≤ 9223372036854775807) (A : Option Addr) (c : Nat) (w : World) (hC : ReadsOf Value.string ByteArray.empty w A l.length l) (hG : Glob w) :
    Calls Tryz.prog 86 #[.slice A l.length c, .func (.func 154) #[] #[]] w fun e w' => e = .returned (.bool (!dotAll l)) ∧ Below w.heap.size w w' := by
  have HI := Lib.hid (dot_idx l hs hl A c w hC hG)
  clear hC hs hG hl
  generalize ha : dotAll l = b
  have Ha := Lib.hid ha
  clear ha
  go_enter Tryz.func86, Tryz.ntmps86
  go_wp2_with (go_at_call 140; refine HI.out.mono ?_; rintro e w1 ⟨i, rfl, hi, hb⟩; rw [Ha.out] at hi; have HB1 := Lib.hid hb; clear hb)
  go_ret
  exact ⟨by simp [hi], HB1.out⟩
theorem text_DotAtom.calls (k : Nat) (a0 : ByteArray) (r : Bool) (w : World) (hG : Glob w) (h : text_DotAtom.f k a0 = some r) :
    Calls Tryz.prog 103 #[.string a0] w fun e w' => e = .returned (.bool r) ∧ Below w.heap.size w w' := by
  unfold text_DotAtom.f at h
  obtain ⟨l, hl, h⟩ := Option.bind_eq_some_iff.mp h
  by_cases hs : dotSmall l = true
  · rw [if_pos hs] at h
    have hr := Lib.hid (Option.some.inj h)
    clear h
    have HL := Lib.hid hl
    have HS := Lib.hid hs
    have HG := Lib.hid hG
    clear hl hs hG
    go_enter Tryz.func103, Tryz.ntmps103
    go_wp2_with (first | (go_at_call 153; refine (text_Split.calls k a0 46 l _ HL.out).mono ?_; rintro e w1 ⟨v, rfl, ho, hb⟩; obtain ⟨A, c, rfl, hc, hC⟩ := Kd.R_reads ho; have HB := Lib.hid hb; have hrd : ReadsOf Value.string ByteArray.empty w1 A l.length l := Kd.reads_of_C hC; have HH := Lib.hid (dot_has l HS.out hrd.2.1 A c w1 hrd (HG.out.below hb)); clear ho hb hC hc hrd) | (go_at_call 86; refine HH.out.mono ?_; rintro e w2 ⟨rfl, hb2⟩; have HB2 := Lib.hid hb2; clear hb2))
    go_ret
    exact ⟨by rw [← hr.out]; simp, HB.out.trans (HB2.out.mono HB.out.size)⟩
  · rw [if_neg hs] at h; cases h


/-! ### text_plain: function 119 -/
def text_plain.f (a0 : Int) : Option (Bool) := if a0 ≥ 32 then (some (decide (a0 ≤ 126))) else (some false)
theorem text_plain.calls (a0 : Int) (r : Bool) (w : World) (h : text_plain.f a0 = some r) :
  Calls Tryz.prog 119 #[.int .u8 a0] w fun e w' => e = .returned (.bool r) ∧ Drawn0 w w' := by
 have H : (if a0 ≥ 32 then (some (decide (a0 ≤ 126))) else (some false)) = some r := h
 clear h
 by_cases c2 : a0 ≥ 32
 ·rw [if_pos c2] at H
  have c2b0 : decide (32 ≤ a0) = true := decide_eq_true c2
  clear c2
  obtain rfl := Option.some.inj H
  go_enter Tryz.func119, Tryz.ntmps119
  go_wp2
  go_ret
  exact ⟨by first | rfl | (simp [bneNil]; done) | (simp; done) | (simp [*]; done), dr⟩
 ·rw [if_neg c2] at H
  have c2b0 : decide (32 ≤ a0) = false := decide_eq_false c2
  clear c2
  obtain rfl := Option.some.inj H
  go_enter Tryz.func119, Tryz.ntmps119
  go_wp2
  go_ret
  exact ⟨by first | rfl | (simp [bneNil]; done) | (simp; done) | (simp [*]; done), dr⟩

/-! ### text_pair: function 167 -/
def text_pair.f (a0 : ByteArray) (a1 : Int) : Option (Int × Int) := if (wrap64 (a1 + 1)) ≥ (a0.size : Int) then (some (0, 4)) else (if 0 ≤ (wrap64 (a1 + 1)) then (if (wrap64 (a1 + 1)) < (a0.size : Int) then ((text_plain.f (bt a0 (wrap64 (a1 + 1)))).bind fun t139 => (if t139 = true then (some (bt a0 (wrap64 (a1 + 1)), 0)) else (some (0, 5)))) else (none)) else (none))
theorem text_pair.calls (a0 : ByteArray) (a1 : Int) (r1 : Int) (r2 : Int) (w : World) (h : text_pair.f a0 a1 = some (r1, r2)) :
  Calls Tryz.prog 167 #[.string a0, .int .i64 a1] w fun e w' => e = .returned (.tuple #[.int .u8 r1, .int .i64 r2]) ∧ Drawn0 w w' := by
 have H : (if (wrap64 (a1 + 1)) ≥ (a0.size : Int) then (some (0, 4)) else (if 0 ≤ (wrap64 (a1 + 1)) then (if (wrap64 (a1 + 1)) < (a0.size : Int) then ((text_plain.f (bt a0 (wrap64 (a1 + 1)))).bind fun t139 => (if t139 = true then (some (bt a0 (wrap64 (a1 + 1)), 0)) else (some (0, 5)))) else (none)) else (none))) = some (r1, r2) := h
 clear h
 by_cases c3 : (wrap64 (a1 + 1)) ≥ (a0.size : Int)
 ·rw [if_pos c3] at H
  have c3b0 : decide ((a0.size : Int) ≤ (wrap64 (a1 + 1))) = true := decide_eq_true c3
  clear c3
  simp only [Option.some.injEq, Prod.mk.injEq] at H
  obtain ⟨rfl, rfl⟩ := H
  go_enter Tryz.func167, Tryz.ntmps167
  go_wp2
  go_ret2
  exact ⟨by first | rfl | (simp [bneNil]; done) | (simp; done) | (simp [*]; done), dr⟩
 ·rw [if_neg c3] at H
  have c3b0 : decide ((a0.size : Int) ≤ (wrap64 (a1 + 1))) = false := decide_eq_false c3
  clear c3
  obtain ⟨ji4, hji4⟩ : ∃ j_ : Int, (wrap64 (a1 + 1)) = j_ := ⟨_, rfl⟩
  replace H : (if 0 ≤ (ji4) then (if (ji4) < (a0.size : Int) then ((text_plain.f (bt a0 (ji4))).bind fun t139 => (if t139 = true then (some (bt a0 (ji4), 0)) else (some (0, 5)))) else (none)) else (none)) = some (r1, r2) := by first | (rw [hji4] at H; exact H) | (simp only [hji4] at H ⊢; exact H)
  (try rw [hji4] at c3b0)
  have hji4w : (IntKind.i64.wrap (a1 + 1)) = ji4 := (i64_w _).trans hji4
  by_cases c5 : 0 ≤ (ji4)
  rotate_left
  ·rw [if_neg c5] at H
   exact ab H
  rw [if_pos c5] at H
  have c5b0 : decide (0 ≤ (ji4)) = true := decide_eq_true c5
  clear c5
  by_cases c6 : (ji4) < (a0.size : Int)
  rotate_left
  ·rw [if_neg c6] at H
   exact ab H
  rw [if_pos c6] at H
  have c6b0 : decide ((ji4) < (a0.size : Int)) = true := decide_eq_true c6
  clear c6
  obtain ⟨t139, A80, H⟩ := Option.bind_eq_some_iff.mp H
  replace H : (if t139 = true then (some (bt a0 (ji4), 0)) else (some (0, 5))) = some (r1, r2) := H
  have A8 := Aside0.mk A80
  clear A80
  by_cases c9 : t139 = true
  ·subst c9
   replace H : (some (bt a0 (ji4), 0)) = some (r1, r2) := by rw [if_pos rfl] at H; exact H
   simp only [Option.some.injEq, Prod.mk.injEq] at H
   obtain ⟨rfl, rfl⟩ := H
   have p7 : 0 ≤ ((ji4) : Int) := od
   have q7 : (ji4) < (a0.size : Int) := od
   have hx7 := bt_at a0 (ji4)
   replace p7 := eq_true p7
   replace q7 := eq_true q7
   go_enter Tryz.func167, Tryz.ntmps167
   go_wp2_with (first | ((with_reducible refine gate_callee (f := 119) rfl ?_); refine goesL_ (some 17) rfl rfl Tryz.func119 kf rfl #[.int .u8 (bt a0 (ji4))] rfl (by (try simp only [List.map_toArray, List.map_cons, List.map_nil]); first | done | (simp only [hji4]; rfl) | rfl | (simp only [List.length_drop, List.length_take]; rfl)) ?_; (with_reducible refine (text_plain.calls (bt a0 (ji4)) true _ A8.out).mono ?_); rintro e w' ⟨rfl, ⟨nd, rfl⟩⟩; refine ⟨_, rfl, ?_⟩; have p10 : 0 ≤ ((ji4) : Int) := od; have q10 : (ji4) < (a0.size : Int) := od; have hx10 := bt_at a0 (ji4); replace p10 := eq_true p10; replace q10 := eq_true q10))
   go_ret2
   exact ⟨by first | rfl | (simp [bneNil]; done) | (simp; done) | (simp only [← hji4] <;> (first | rfl | simp)) | (simp [*]; done), dr⟩
  ·replace c9 := Bool.eq_false_iff.mpr c9
   subst c9
   replace H : (some (0, 5)) = some (r1, r2) := by rw [if_neg (show ¬ (false = true) by decide)] at H; exact H
   simp only [Option.some.injEq, Prod.mk.injEq] at H
   obtain ⟨rfl, rfl⟩ := H
   have p7 : 0 ≤ ((ji4) : Int) := od
   have q7 : (ji4) < (a0.size : Int) := od
   have hx7 := bt_at a0 (ji4)
   replace p7 := eq_true p7
   replace q7 := eq_true q7
   go_enter Tryz.func167, Tryz.ntmps167
   go_wp2_with (first | ((with_reducible refine gate_callee (f := 119) rfl ?_); refine goesL_ (some 17) rfl rfl Tryz.func119 kf rfl #[.int .u8 (bt a0 (ji4))] rfl (by (try simp only [List.map_toArray, List.map_cons, List.map_nil]); first | done | (simp only [hji4]; rfl) | rfl | (simp only [List.length_drop, List.length_take]; rfl)) ?_; (with_reducible refine (text_plain.calls (bt a0 (ji4)) false _ A8.out).mono ?_); rintro e w' ⟨rfl, ⟨nd, rfl⟩⟩; refine ⟨_, rfl, ?_⟩))
   go_ret2
   exact ⟨by first | rfl | (simp [bneNil]; done) | (simp; done) | (simp only [← hji4] <;> (first | rfl | simp)) | (simp [*]; done), dr⟩

/-! ### text_Quoted: function 127 -/
mutual
def text_Quoted.j0 : Nat → ByteArray → Bool → Option (ByteArray × Int × Int)
 | 0, _, _ => none
 | k + 1, x0, x14 => if x14 = true then (some ((⟨#[]⟩ : ByteArray), 0, 5)) else (text_Quoted.l0 k x0 ([] : List Int) 1)
def text_Quoted.l0 : Nat → ByteArray → List Int → Int → Option (ByteArray × Int × Int)
 | 0, _, _, _ => none
 | k + 1, x0, x5, x6 => if x6 < (x0.size : Int) then (if 0 ≤ x6 then (if (bt x0 x6) = 34 then (some (strOfNums x5, wrap64 (x6 + 1), 0)) else (if (bt x0 x6) = 92 then ((text_pair.f x0 x6).bind fun bt140 => (if bt140.2 = 0 then (if x5.length < 140737488355328 then (text_Quoted.l0 k x0 (x5 ++ [bt140.1]) (wrap64 ((wrap64 (x6 + 1)) + 1))) else (none)) else (some ((⟨#[]⟩ : ByteArray), 0, bt140.2)))) else ((text_plain.f (bt x0 x6)).bind fun t145 => (if t145 = true then (if x5.length < 140737488355328 then (text_Quoted.l0 k x0 (x5 ++ [bt x0 x6]) (wrap64 (x6 + 1))) else (none)) else (some ((⟨#[]⟩ : ByteArray), 0, 5)))))) else (none)) else (some ((⟨#[]⟩ : ByteArray), 0, 4))
end
def text_Quoted.f (k : Nat) (a0 : ByteArray) : Option (ByteArray × Int × Int) := if a0.toList = ([] : List UInt8) then (text_Quoted.j0 k a0 true) else (if 0 < (a0.size : Int) then (text_Quoted.j0 k a0 ((bt a0 0) != 34)) else (none))
theorem text_Quoted.mono_l : ∀ k, (∀ y0 y1, LeO (text_Quoted.j0 k y0 y1) (text_Quoted.j0 (k + 1) y0 y1)) ∧ (∀ y0 y1 y2, LeO (text_Quoted.l0 k y0 y1 y2) (text_Quoted.l0 (k + 1) y0 y1 y2))
 | 0 => ⟨fun _ _ r h => by simp [text_Quoted.j0] at h, fun _ _ _ r h => by simp [text_Quoted.l0] at h⟩
 | k + 1 => by
  obtain ⟨ih0, ih1⟩ := text_Quoted.mono_l k
  refine ⟨?_, ?_⟩
  ·intro y0 y1
   unfold text_Quoted.j0
   repeat' first
   | (with_reducible first | exact ih0 _ _ | exact ih1 _ _ _ | exact LeO.refl _ | exact LeO.none _ | refine LeO.ite ?_ ?_ | refine LeO.bind ?_ (fun _ => ?_))
  ·intro y0 y1 y2
   unfold text_Quoted.l0
   repeat' first
   | (with_reducible first | exact ih0 _ _ | exact ih1 _ _ _ | exact LeO.refl _ | exact LeO.none _ | refine LeO.ite ?_ ?_ | refine LeO.bind ?_ (fun _ => ?_))
theorem text_Quoted.mono : ∀ a0 k, LeO (text_Quoted.f k a0) (text_Quoted.f (k + 1) a0) := by
 intro a0 k
 obtain ⟨ih0, ih1⟩ := text_Quoted.mono_l k
 unfold text_Quoted.f
 repeat' first
   | (with_reducible first | exact ih0 _ _ | exact ih1 _ _ _ | exact LeO.refl _ | exact LeO.none _ | refine LeO.ite ?_ ?_ | refine LeO.bind ?_ (fun _ => ?_))
theorem text_Quoted.calls (k : Nat) (a0 : ByteArray) (r1 : ByteArray) (r2 : Int) (r3 : Int) (w : World) (h : text_Quoted.f k a0 = some (r1, r2, r3)) :
  Calls Tryz.prog 127 #[.string a0] w fun e w' => e = .returned (.tuple #[.string r1, .int .i64 r2, .int .i64 r3]) ∧ Below w.heap.size w w' := by
 have HB := Aside0.mk (Below.refl w.heap.size w)
 have H : (if a0.toList = ([] : List UInt8) then (text_Quoted.j0 k a0 true) else (if 0 < (a0.size : Int) then (text_Quoted.j0 k a0 ((bt a0 0) != 34)) else (none))) = some (r1, r2, r3) := h
 clear h
 have HC2 := Aside0.mk H
 clear H
 go_enter Tryz.func127, Tryz.ntmps127
 go_upto_region 1 with (fail)
 go_cut [14] (fun v14 wc => ∃ (kq : Nat) (x14_1 : Bool), v14 = .bool x14_1 ∧ Aside0 (text_Quoted.j0 kq a0 x14_1 = some (r1, r2, r3)) ∧ Aside0 (kq ≤ k) ∧ Aside0 (Below w.heap.size w wc))
 case first =>
  have H := HC2.out
  clear HC2
  by_cases c3 : a0.toList = ([] : List UInt8)
  ·rw [if_pos c3] at H
   have c3b0 : (a0.toList == ([] : List UInt8)) = true := beq_iff_eq.mpr c3
   have c3b1 : (a0.toList != ([] : List UInt8)) = false := bne_eq_false_iff_eq.mpr c3
   clear c3
   (first | rw [c3b0] | (simp only [i64_w, i32_w]; rw [c3b0]) | skip)
   have H' := Aside0.mk H
   clear H
   go_wp2
   go_meet
   case rel => exact ⟨_, (true), rs, H', ⟨by first | omega | exact Nat.le_refl _⟩, ⟨bl⟩⟩
  ·rw [if_neg c3] at H
   have c3b0 : (a0.toList == ([] : List UInt8)) = false := beq_eq_false_iff_ne.mpr c3
   have c3b1 : (a0.toList != ([] : List UInt8)) = true := bne_iff_ne.mpr c3
   (first | rw [c3b0] | (simp only [i64_w, i32_w]; rw [c3b0]) | skip)
   by_cases c4 : 0 < (a0.size : Int)
   rotate_left
   ·rw [if_neg c4] at H
    exact ab H
   rw [if_pos c4] at H
   have c4b0 : decide (0 < (a0.size : Int)) = true := decide_eq_true c4
   have c4b1 : decide (0 < a0.size) = true := decide_eq_true (by omega)
   clear c4
   have H' := Aside0.mk H
   clear H
   have p5 : 0 ≤ (0 : Int) := (by omega)
   have q5 : 0 < a0.size := (by have : (0 : Int) < (a0.size : Int) := od; omega)
   have hx5 : ∀ h : 0 < a0.size, ((a0[0]'h).toNat : Int) = bt a0 0 := bt_at a0 0
   clear p5
   have qi5 : (0 < (a0.size : Int)) = True := eq_true (od)
   replace q5 := eq_true q5
   go_wp2
   go_meet
   case rel => exact ⟨_, (((bt a0 0) != 34)), rs, H', ⟨by first | omega | exact Nat.le_refl _⟩, ⟨bl⟩⟩
 case rest =>
  clear HC2
  try clear c1
  try clear p2
  try clear c3
  try clear c3b0
  try clear c3b1
  try clear c4
  try clear c4b0
  try clear c4b1
  try clear p5
  try clear q5
  try clear hx5
  try clear qi5
  try clear p5
  try clear q5
  obtain ⟨kq, x14_1, rfl, HA, HJ1, HB⟩ := hcut
  cases kq with
  | zero => exact absurd HA.out (by simp [text_Quoted.j0])
  | succ kj1 =>
   have H := HA.out
   clear HA
   simp only [text_Quoted.j0] at H
   by_cases c6 : x14_1 = true
   ·subst c6
    replace H : (some ((⟨#[]⟩ : ByteArray), 0, 5)) = some (r1, r2, r3) := by rw [if_pos rfl] at H; exact H
    simp only [Option.some.injEq, Prod.mk.injEq] at H
    obtain ⟨rfl, rfl, rfl⟩ := H
    go_wp2
    go_ret3
    exact ⟨rf, bl⟩
   ·replace c6 := Bool.eq_false_iff.mpr c6
    subst c6
    replace H : (text_Quoted.l0 kj1 a0 ([] : List Int) 1) = some (r1, r2, r3) := by rw [if_neg (show ¬ (false = true) by decide)] at H; exact H
    have H' := Aside0.mk H
    clear H
    go_wp2
    go_loopg [5, 6] kj1 (fun kq v5 v6 w' => ∃ (x5_2 : List Int) (x6_2 : Int), v6 = .int .i64 x6_2 ∧ Aside0 (text_Quoted.l0 kq a0 x5_2 x6_2 = some (r1, r2, r3)) ∧ Aside0 (kq ≤ kj1) ∧ Aside0 (Kd.R (Kd.int .u8) 5 w' w.heap.size (fun _ => True) v5 x5_2) ∧ Aside0 (Below w.heap.size w w'))
    case atStart => exact ⟨(([] : List Int)), (1), rs, H', ⟨Nat.le_refl _⟩, ⟨by first | exact Kd.R_nil _ _ _ _ _ | exact Kd.N_nil _ _ _ _ _ | exact Kd.V_nil _ _ _ _ _ | exact Kd.Q_nil _ _ _ _ _ | exact Kd.S_nil _ _ _ _ _⟩, ⟨bl⟩⟩
    case round =>
     clear H'
     try clear c1
     try clear p2
     try clear c3
     try clear c3b0
     try clear c3b1
     try clear c4
     try clear c4b0
     try clear c4b1
     try clear p5
     try clear q5
     try clear hx5
     try clear qi5
     try clear c6
     try clear p2
     try clear p5
     try clear q5
     obtain ⟨x5_2, x6_2, rfl, HA, HK2, HO_5, HB⟩ := hrel
     cases gk with
     | zero => exact absurd HA.out (by simp [text_Quoted.l0])
     | succ k2 =>
      have H := HA.out
      clear HA
      simp only [text_Quoted.l0] at H
      by_cases c7 : x6_2 < (a0.size : Int)
      ·rw [if_pos c7] at H
       have c7b0 : decide (x6_2 < (a0.size : Int)) = true := decide_eq_true c7
       clear c7
       by_cases c8 : 0 ≤ x6_2
       rotate_left
       ·rw [if_neg c8] at H
        exact ab H
       rw [if_pos c8] at H
       have c8b0 : decide (0 ≤ x6_2) = true := decide_eq_true c8
       clear c8
       by_cases c10 : (bt a0 x6_2) = 34
       ·rw [if_pos c10] at H
        have c10b0 : ((bt a0 x6_2) == 34) = true := beq_iff_eq.mpr c10
        have c10b1 : ((bt a0 x6_2) != 34) = false := bne_eq_false_iff_eq.mpr c10
        clear c10
        simp only [Option.some.injEq, Prod.mk.injEq] at H
        obtain ⟨rfl, rfl, rfl⟩ := H
        have p9 : 0 ≤ (x6_2 : Int) := od
        have q9 : x6_2 < (a0.size : Int) := od
        have hx9 := bt_at a0 x6_2
        replace p9 := eq_true p9
        replace q9 := eq_true q9
        have hcv11 := own_string (P := Tryz.prog) Tryz.underlying102 Tryz.underlying5 Tryz.underlying9 (Kd.own_of_R HO_5.out)
        go_wp2
        go_ret3
        exact ⟨rf, bl⟩
       ·rw [if_neg c10] at H
        have c10b0 : ((bt a0 x6_2) == 34) = false := beq_eq_false_iff_ne.mpr c10
        have c10b1 : ((bt a0 x6_2) != 34) = true := bne_iff_ne.mpr c10
        by_cases c12 : (bt a0 x6_2) = 92
        ·rw [if_pos c12] at H
         have c12b0 : ((bt a0 x6_2) == 92) = true := beq_iff_eq.mpr c12
         have c12b1 : ((bt a0 x6_2) != 92) = false := bne_eq_false_iff_eq.mpr c12
         clear c12
         obtain ⟨⟨t140, t141⟩, A130, H⟩ := Option.bind_eq_some_iff.mp H
         replace H : (if t141 = 0 then (if x5_2.length < 140737488355328 then (text_Quoted.l0 k2 a0 (x5_2 ++ [t140]) (wrap64 ((wrap64 (x6_2 + 1)) + 1))) else (none)) else (some ((⟨#[]⟩ : ByteArray), 0, t141))) = some (r1, r2, r3) := H
         have A13 := Aside0.mk A130
         clear A130
         by_cases c14 : t141 = 0
         ·rw [if_pos c14] at H
          have c14b0 : (t141 == 0) = true := beq_iff_eq.mpr c14
          have c14b1 : (t141 != 0) = false := bne_eq_false_iff_eq.mpr c14
          clear c14
          by_cases c15 : x5_2.length < 140737488355328
          rotate_left
          ·rw [if_neg c15] at H
           exact ab H
          rw [if_pos c15] at H
          have LMc15 := Aside0.mk c15
          clear c15
          obtain ⟨y142, hy142⟩ : ∃ y_ : List Int, y_ = (x5_2 ++ [t140]) := ⟨_, rfl⟩
          replace H : (text_Quoted.l0 k2 a0 y142 (wrap64 ((wrap64 (x6_2 + 1)) + 1))) = some (r1, r2, r3) := by first | (rw [hy142]; with_reducible exact H) | (have H2_ := (Option.bind_some _ _).symm.trans H; rw [hy142]; with_reducible exact H2_) | (have H2_ := (Option.bind_some _ _).symm.trans H; with_reducible exact H2_) | with_reducible exact H | (rw [hy142]; exact H) | exact H
          have Ny142 := Aside0.mk hy142
          clear hy142
          have H' := Aside0.mk H
          clear H
          have p9 : 0 ≤ (x6_2 : Int) := od
          have q9 : x6_2 < (a0.size : Int) := od
          have hx9 := bt_at a0 x6_2
          replace p9 := eq_true p9
          replace q9 := eq_true q9
          go_wp2_with (first | ((with_reducible refine gate_callee (f := 167) rfl ?_); refine goesL_ (some 37) rfl rfl Tryz.func167 kf rfl #[.string a0, .int .i64 x6_2] rfl ml ?_; (with_reducible refine (text_pair.calls a0 x6_2 t140 t141 _ A13.out).mono ?_); rintro e w' ⟨rfl, ⟨nd, rfl⟩⟩; refine ⟨_, rfl, ?_⟩) | ((with_reducible refine gate_builtin (b := .append) (xs := #[.tmp 49, .tmp 51]) rfl ?_); at_builtin; refine Kd.R_append (Kd.int .u8) (w0 := w) w.heap.size rfl (.tmp 49) (.tmp 51) 102 5 (.int .u8 0) 1 rfl Tryz.underlying102 info5 rfl (by decide) (by omega) u5 x5_2 t140 [.int .u8 t140] (fun _ => True) (fun _ => False) rfl rfl ?aP (fun _ hk => hk.elim) ?aF ?aO ?aB ?aS ?aL ?_; (case aP => exact rfl); (case aB => exact bl); (case aF => exact (fun _ _ => trivial)); (case aO => exact (kr HO_5.out)); (case aS => exact (below_size bl)); (case aL => have := LMc15.out; omega); intro v143 w16 ho hb hg hat; rw [← Ny142.out] at ho; replace HB := Aside0.mk (hb); have HO144 := Aside0.mk (ho); clear HO_5 ho hb hg hat))
          go_roundg k2
          case measure => have := HJ1.out; have := HK2.out; omega
          case rel => exact ⟨(y142), (wrap64 ((wrap64 (x6_2 + 1)) + 1)), rs, H', ⟨by have := HJ1.out; have := HK2.out; omega⟩, ⟨kr HO144.out⟩, ⟨bl⟩⟩
         ·rw [if_neg c14] at H
          have c14b0 : (t141 == 0) = false := beq_eq_false_iff_ne.mpr c14
          have c14b1 : (t141 != 0) = true := bne_iff_ne.mpr c14
          simp only [Option.some.injEq, Prod.mk.injEq] at H
          obtain ⟨rfl, rfl, rfl⟩ := H
          have p9 : 0 ≤ (x6_2 : Int) := od
          have q9 : x6_2 < (a0.size : Int) := od
          have hx9 := bt_at a0 x6_2
          replace p9 := eq_true p9
          replace q9 := eq_true q9
          go_wp2_with (first | ((with_reducible refine gate_callee (f := 167) rfl ?_); refine goesL_ (some 37) rfl rfl Tryz.func167 kf rfl #[.string a0, .int .i64 x6_2] rfl ml ?_; (with_reducible refine (text_pair.calls a0 x6_2 t140 t141 _ A13.out).mono ?_); rintro e w' ⟨rfl, ⟨nd, rfl⟩⟩; refine ⟨_, rfl, ?_⟩))
          go_ret3
          exact ⟨rf, bl⟩
        ·rw [if_neg c12] at H
         have c12b0 : ((bt a0 x6_2) == 92) = false := beq_eq_false_iff_ne.mpr c12
         have c12b1 : ((bt a0 x6_2) != 92) = true := bne_iff_ne.mpr c12
         obtain ⟨t145, A170, H⟩ := Option.bind_eq_some_iff.mp H
         replace H : (if t145 = true then (if x5_2.length < 140737488355328 then (text_Quoted.l0 k2 a0 (x5_2 ++ [bt a0 x6_2]) (wrap64 (x6_2 + 1))) else (none)) else (some ((⟨#[]⟩ : ByteArray), 0, 5))) = some (r1, r2, r3) := H
         have A17 := Aside0.mk A170
         clear A170
         by_cases c18 : t145 = true
         ·subst c18
          replace H : (if x5_2.length < 140737488355328 then (text_Quoted.l0 k2 a0 (x5_2 ++ [bt a0 x6_2]) (wrap64 (x6_2 + 1))) else (none)) = some (r1, r2, r3) := by rw [if_pos rfl] at H; exact H
          by_cases c19 : x5_2.length < 140737488355328
          rotate_left
          ·rw [if_neg c19] at H
           exact ab H
          rw [if_pos c19] at H
          have LMc19 := Aside0.mk c19
          clear c19
          obtain ⟨y146, hy146⟩ : ∃ y_ : List Int, y_ = (x5_2 ++ [bt a0 x6_2]) := ⟨_, rfl⟩
          replace H : (text_Quoted.l0 k2 a0 y146 (wrap64 (x6_2 + 1))) = some (r1, r2, r3) := by first | (rw [hy146]; with_reducible exact H) | (have H2_ := (Option.bind_some _ _).symm.trans H; rw [hy146]; with_reducible exact H2_) | (have H2_ := (Option.bind_some _ _).symm.trans H; with_reducible exact H2_) | with_reducible exact H | (rw [hy146]; exact H) | exact H
          have Ny146 := Aside0.mk hy146
          clear hy146
          have H' := Aside0.mk H
          clear H
          have p9 : 0 ≤ (x6_2 : Int) := od
          have q9 : x6_2 < (a0.size : Int) := od
          have hx9 := bt_at a0 x6_2
          replace p9 := eq_true p9
          replace q9 := eq_true q9
          go_wp2_with (first | ((with_reducible refine gate_callee (f := 119) rfl ?_); refine goesL_ (some 47) rfl rfl Tryz.func119 kf rfl #[.int .u8 (bt a0 x6_2)] rfl ml ?_; (with_reducible refine (text_plain.calls (bt a0 x6_2) true _ A17.out).mono ?_); rintro e w' ⟨rfl, ⟨nd, rfl⟩⟩; refine ⟨_, rfl, ?_⟩) | ((with_reducible refine gate_builtin (b := .append) (xs := #[.tmp 49, .tmp 51]) rfl ?_); at_builtin; refine Kd.R_append (Kd.int .u8) (w0 := w) w.heap.size rfl (.tmp 49) (.tmp 51) 102 5 (.int .u8 0) 1 rfl Tryz.underlying102 info5 rfl (by decide) (by omega) u5 x5_2 (bt a0 x6_2) [.int .u8 (bt a0 x6_2)] (fun _ => True) (fun _ => False) rfl rfl ?aP (fun _ hk => hk.elim) ?aF ?aO ?aB ?aS ?aL ?_; (case aP => exact rfl); (case aB => exact bl); (case aF => exact (fun _ _ => trivial)); (case aO => exact (kr HO_5.out)); (case aS => exact (below_size bl)); (case aL => have := LMc19.out; omega); intro v147 w20 ho hb hg hat; rw [← Ny146.out] at ho; replace HB := Aside0.mk (hb); have HO148 := Aside0.mk (ho); clear HO_5 ho hb hg hat))
          go_roundg k2
          case measure => have := HJ1.out; have := HK2.out; omega
          case rel => exact ⟨(y146), (wrap64 (x6_2 + 1)), rs, H', ⟨by have := HJ1.out; have := HK2.out; omega⟩, ⟨kr HO148.out⟩, ⟨bl⟩⟩
         ·replace c18 := Bool.eq_false_iff.mpr c18
          subst c18
          replace H : (some ((⟨#[]⟩ : ByteArray), 0, 5)) = some (r1, r2, r3) := by rw [if_neg (show ¬ (false = true) by decide)] at H; exact H
          simp only [Option.some.injEq, Prod.mk.injEq] at H
          obtain ⟨rfl, rfl, rfl⟩ := H
          have p9 : 0 ≤ (x6_2 : Int) := od
          have q9 : x6_2 < (a0.size : Int) := od
          have hx9 := bt_at a0 x6_2
          replace p9 := eq_true p9
          replace q9 := eq_true q9
          go_wp2_with (first | ((with_reducible refine gate_callee (f := 119) rfl ?_); refine goesL_ (some 47) rfl rfl Tryz.func119 kf rfl #[.int .u8 (bt a0 x6_2)] rfl ml ?_; (with_reducible refine (text_plain.calls (bt a0 x6_2) false _ A17.out).mono ?_); rintro e w' ⟨rfl, ⟨nd, rfl⟩⟩; refine ⟨_, rfl, ?_⟩))
          go_ret3
          exact ⟨rf, bl⟩
      ·rw [if_neg c7] at H
       have c7b0 : decide (x6_2 < (a0.size : Int)) = false := decide_eq_false c7
       clear c7
       simp only [Option.some.injEq, Prod.mk.injEq] at H
       obtain ⟨rfl, rfl, rfl⟩ := H
       go_wp2
       go_ret3
       exact ⟨rf, bl⟩

end Go.Proofs.YtacjnapgdikhbaaGreatDoor.Q
end
