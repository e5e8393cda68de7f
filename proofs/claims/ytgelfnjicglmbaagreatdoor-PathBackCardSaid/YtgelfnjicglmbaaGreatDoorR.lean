/- From a contract to the row, the listed variables and the world's own shape at hand. -/
import Derived.Test.YtgelfnjicglmbaaGreatDoorRows
import Derived.Test.YtgelfnjicglmbaaGreatDoorG
import Derived.Handed
import Derived.HandedShaped
import Derived.LaidMore
import Derived.ProofKit
import Derived.Lib.LaidTab
import Derived.Lib.LaidU8
import Derived.Lay
import Derived.Shelf.Vars
import Derived.ChangeArms
import Derived.LaidHandle
import Derived.LaidSub
import Derived.WideKeyElems2
import Derived.Laws.IdiomMaps
import Derived.StringKeys
namespace Go.Proofs.YtgelfnjicglmbaaGreatDoor
set_option linter.unusedVariables false
open Go.ChangeShapes Go.WideShapes Go.ChangeAt Go.RowKit
section
variable {H : Type} {enc : TypeId × Value → H}
theorem change_both {a : Assume} {C : Checked} {os : Os} {f : FuncId} {fn : Func} {s : ChangeSpec} {conds : List PathCond} {apart fresh handsOn again : Bool} {X : World → Array Value → Prop}
  (hX : ∀ (w w' : World) (args : Array Value), w.heap = w'.heap → X w args → X w' args)
  (own : ownKnob C.prog.godebug = none) (started : os.Started) (noInit : C.prog.inits.idxOf? f = none) (hfn : C.prog.funcs[f]? = some fn)
  (witness : ∃ (w : World) (tape : Tape) (i : Input), w.os = os ∧ (w.forCall tape i).Shaped C.prog ∧ i.vars = [] ∧ Input.okWide C.prog (w.forCall tape i) .any w.heap.size f i ∧
   ((s.pre enc C.prog fn conds apart (w.forCall tape i).memory i.args ∧ X (w.forCall tape i).memory i.args) ∧ sizedMet enc C.prog fn (OpenSpec.ofChange s) apart (w.forCall tape i).memory i.args) ∧ a.holds C.prog (lone (Frame.enter C.prog f i.args .normal) [] (w.forCall tape i)))
  (contract : ∀ (W : World) (base : Nat) (args : Array Value) (ds gs : List (DataW H)) (before : List MemPlace),
   (∀ (j : Nat) t v, fn.params[j]? = some t → args[j]? = some v → Value.okWide C.prog W .any base t v) →
   DataW.Whole enc C.prog fn.params.toList s.vars apart W args.toList ds gs before →
   conds.all (PathCond.test C.prog ⟨fn.params.toList, ds, s.plain.varTypes C.prog, gs⟩) = true →
   (DataW.weightsEach C.prog (fn.params.toList ++ s.plain.varTypes C.prog) (ds ++ gs)).all (· ≤ reachBytes) = true → X W args → W.ShapedOpen C.prog →
   a.holds C.prog (lone (Frame.enter C.prog f args .normal) [] W) →
   Calls C.prog f args W fun e W' => ∃ v, e = .returned v ∧ s.post enc C.prog fn apart fresh handsOn again W args v W') :
  ReturnsInHanded a C os f .any (fun w args => (s.pre enc C.prog fn conds apart w args ∧ X w args) ∧ sizedMet enc C.prog fn (OpenSpec.ofChange s) apart w args) (s.post enc C.prog fn apart fresh handsOn again) := by
 refine returnsInHanded_of_calls own started noInit witness ?_
 intro w tape i _ hsh _ hok hpre hholds
 obtain ⟨_, _, _, fn', hfn', _, _, _, _, hval⟩ := hok
 have e : fn' = fn := Option.some.inj (hfn'.symm.trans hfn)
 subst e
 obtain ⟨⟨⟨ds, gs, before, hw, hc⟩, hx⟩, hz⟩ := hpre
 have hw' := DataW.Whole.of_heap (w' := w.forCall tape i) (by rfl) hw
 refine (contract (w.forCall tape i) w.heap.size i.args ds gs before hval hw' hc (hz.weights hw) (hX _ _ _ (by rfl) hx) hsh hholds).mono fun e W' ⟨v, he, hp⟩ => ?_
 subst he
 exact ChangeSpec.post_blind hp
end
theorem tab_of_reads {P : Program} {W : World} {name : String} {k : IntKind} {zs : List Int} {g : Nat} {t e : TypeId} {n : Nat}
  (hg : P.globalNamed name = some g) (hty : (P.globals[g]?).map (·.type) = some t) (ht : P.underlying t = some (.array n e)) (he : P.underlying e = some (.int k)) (hce : P.cellsOf e = 1) (hct : P.cellsOf t = n)
  (h : Lib.VarReads P W name (Lib.tabData k zs)) : Lib.TabIs P W name k zs := by
 obtain ⟨g', t', cs, fuel, p, hg', ht', hvar, hd⟩ := h
 obtain rfl := Option.some.inj (hg.symm.trans hg')
 obtain rfl := Option.some.inj (hty.symm.trans ht')
 unfold Lib.TabIs
 rw [hvar, ← Lib.cells_of_tab ht he hce hct hd]
theorem path_reads {W : World} (h4 : Lib.VarReads Tryz.prog W "internal/strconv.uint64pow10" Rows.laid_internal_strconv_uint64pow10) (h5 : Lib.VarReads Tryz.prog W "postrider/text.atext" Rows.laid_postrider_text_atext) (hm : ∃ m, W.cell? ⟨4, 0, none⟩ = some (.int .i64 m)) (hs : Q.SaysIs W) : Q.Glob W := by
 have hp : Lib.TabIs Tryz.prog W "internal/strconv.uint64pow10" .u64 Lib.pow10Tab := tab_of_reads (g := 6) (t := 174) (e := 114) (n := 20) (by kernel_rfl) (by kernel_rfl) (by kernel_rfl) (by kernel_rfl) (by kernel_rfl) (by kernel_rfl) h4
 have ht : Lib.TabIs Tryz.prog W "postrider/text.atext" .u32 [0, 2751442170, 3355443198, 2147483647] := tab_of_reads (g := 5) (t := 150) (e := 58) (n := 4) (by kernel_rfl) (by kernel_rfl) (by kernel_rfl) (by kernel_rfl) (by kernel_rfl) (by kernel_rfl) h5
 have ha : Tryz.prog.globalNamed "postrider/text.atext" = some 5 := by kernel_rfl
 exact ⟨ht.cell ha 0 (by decide), ht.cell ha 1 (by decide), ht.cell ha 2 (by decide), ht.cell ha 3 (by decide), hp, hm, hs⟩
theorem bytes_max {W : World} (hS : W.ShapedOpen Tryz.prog) : ∃ m, W.cell? ⟨4, 0, none⟩ = some (.int .i64 m) :=
 cell_of_shapedOpen_int hS (g := 4) (t := 3) (zero := #[.int .i64 0]) (of_decide_eq_true (by kernel_rfl)) (by kernel_rfl) rfl (by kernel_rfl) (by kernel_rfl) Tryz.underlying3
theorem says_of_funcs {W : World} (h : funcsAt Tryz.prog W "postrider/path.says" (.map [(.string [98, 111, 100, 121], .iface "func" (.lit (.string [112, 111, 115, 116, 114, 105, 100, 101, 114, 47, 112, 97, 116, 104, 46, 115, 97, 121, 115, 36, 50]))), (.string [115, 105, 122, 101], .iface "func" (.lit (.string [112, 111, 115, 116, 114, 105, 100, 101, 114, 47, 112, 97, 116, 104, 46, 115, 97, 121, 115, 36, 49])))])) : Q.SaysIs W := by
 obtain ⟨g, t, cs, fuel, p, hg, ht, hv, hd⟩ := h
 obtain rfl := Option.some.inj ((by kernel_rfl : Tryz.prog.globalNamed "postrider/path.says" = some 0).symm.trans hg)
 obtain rfl := Option.some.inj ((by kernel_rfl : (Tryz.prog.globals[0]?).map (·.type) = some 92).symm.trans ht)
 have u92 : Tryz.prog.underlying 92 = some (.map 9 90) := by kernel_rfl
 have u9 : Tryz.prog.underlying 9 = some .string := by kernel_rfl
 have u90 : Tryz.prog.underlying 90 = some (.func #[94, 9] #[36] false) := by kernel_rfl
 have hd' : DataW.trod (funcToken Tryz.prog) Tryz.prog W 0 (fun _ => true) true fuel 92 cs.toList = some (.map [(.string [98, 111, 100, 121], .held [112, 111, 115, 116, 114, 105, 100, 101, 114, 47, 112, 97, 116, 104, 46, 115, 97, 121, 115, 36, 50]), (.string [115, 105, 122, 101], .held [112, 111, 115, 116, 114, 105, 100, 101, 114, 47, 112, 97, 116, 104, 46, 115, 97, 121, 115, 36, 49])], p) := hd
 rcases WideElems.open_map u92 hd' with ⟨_, hx⟩ | ⟨b, es, clock, n, rfl, hcs, hb, _, F, hx⟩
 ·cases hx
 ·simp only [Prod.mk.injEq, DataW.map.injEq] at hx
  obtain ⟨hrow, _⟩ := hx
  refine ⟨b, es, clock, ?_, hb, fun w' s hb' hs => ?_⟩
  ·have := World.var?_cell hg hv 0
   rw [Array.eq_one_of_toList hcs] at this
   simpa using this
  ·have hkey := WideMaps.keyOf_string_mk u9 hs
   have hz : (zeroValue 90).run Tryz.prog w' = .ok .nilFunc w' := by kernel_rfl
   have key := WideElems.fit_lookup_ok (WideMaps.string_law u9) u92 hz hb' F hkey
   rw [← hrow] at key
   by_cases k1 : s.data.toList = [115, 105, 122, 101]
   ·have e : Q.saysIx s = 1 := by unfold Q.saysIx; rw [if_pos k1]
    rw [k1] at key
    rcases key with ⟨_, hq⟩ | ⟨v, y, hrun, hR, hq, _⟩
    ·have := hq .nil
     cases this
    ·rw [hrun, e]
     obtain ⟨y1, y2⟩ := y
     have hy : DataW.held _ = y1 := hq .nil
     subst hy
     unfold WideElems.elemAt at hR
     split at hR
     ·rename_i hf
      have hc : v.cells.toList = [v] := by cases v <;> first | rfl | (simp [Value.formed, u90] at hf)
      rw [hc] at hR
      obtain rfl := func_of_trod (f0 := 167) u90 (by kernel_rfl) hR
      rfl
     ·cases hR
   ·by_cases k2 : s.data.toList = [98, 111, 100, 121]
    ·have e : Q.saysIx s = 2 := by unfold Q.saysIx; rw [if_neg k1, if_pos k2]
     rw [k2] at key
     rcases key with ⟨_, hq⟩ | ⟨v, y, hrun, hR, hq, _⟩
     ·have := hq .nil
      cases this
     ·rw [hrun, e]
      obtain ⟨y1, y2⟩ := y
      have hy : DataW.held _ = y1 := hq .nil
      subst hy
      unfold WideElems.elemAt at hR
      split at hR
      ·rename_i hf
       have hc : v.cells.toList = [v] := by cases v <;> first | rfl | (simp [Value.formed, u90] at hf)
       rw [hc] at hR
       obtain rfl := func_of_trod (f0 := 168) u90 (by kernel_rfl) hR
       rfl
      ·cases hR
    ·have e : Q.saysIx s = 0 := by unfold Q.saysIx; rw [if_neg k1, if_neg k2]
     have hne : ∀ zd : DataW (List UInt8), (DataW.map [(.string [98, 111, 100, 121], DataW.held [112, 111, 115, 116, 114, 105, 100, 101, 114, 47, 112, 97, 116, 104, 46, 115, 97, 121, 115, 36, 50]), (.string [115, 105, 122, 101], .held [112, 111, 115, 116, 114, 105, 100, 101, 114, 47, 112, 97, 116, 104, 46, 115, 97, 121, 115, 36, 49])]).atKey (.string s.data.toList) zd = zd := by
      intro zd
      have h1 : ([98, 111, 100, 121] == s.data.toList) = false := beq_eq_false_iff_ne.mpr (Ne.symm k2)
      have h2 : ([115, 105, 122, 101] == s.data.toList) = false := beq_eq_false_iff_ne.mpr (Ne.symm k1)
      simp only [DataW.atKey, List.find?, Lit.sameKey, h1, h2]
     rcases key with ⟨hrun, _⟩ | ⟨v, y, hrun, hR, hq, _⟩
     ·rw [hrun, e]; rfl
     ·have a1 := (hq .nil).symm.trans (hne .nil)
      have a2 := (hq (.held [])).symm.trans (hne (.held []))
      rw [a1] at a2
      cases a2
theorem glob_of_pathBack {W : World} (h : laidMetH Tryz.prog Rows.pathBackRow.laid W) (hS : W.ShapedOpen Tryz.prog) : Q.Glob W := by
 have hp := (laidMetH_iff.mp h).1
 exact path_reads (Lib.laidMet.reads hp (List.mem_filter.2 ⟨(.tail _ (.tail _ (.head _))), by kernel_rfl⟩)) (Lib.laidMet.reads hp (List.mem_filter.2 ⟨(.tail _ (.tail _ (.tail _ (.tail _ (.head _))))), by kernel_rfl⟩)) (bytes_max hS) (says_of_funcs (h.funcs (.tail _ (.tail _ (.tail _ (.tail _ (.tail _ (.head _))))))))
end Go.Proofs.YtgelfnjicglmbaaGreatDoor

