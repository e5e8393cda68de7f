/- Plain facts on texts that are split, joined, and told as lines. -/
import Derived.Test.YtgelfnjicglmbaaGreatDoorS
import Derived.Lib.Split
import Derived.Lib.SplitLaws
import Derived.Lib.Join
namespace Go.Proofs.YtgelfnjicglmbaaGreatDoor.S
set_option linter.unusedVariables false
theorem ix_hit {c : UInt8} {t a b : List UInt8} (h : c ∉ a) : Lib.index (a ++ ((c :: t) ++ b)) (c :: t) = (a.length : Int) := by
 refine Lib.index_first (by simp) ?_ (fun j hj => ?_)
 ·unfold Lib.occAt
  rw [List.drop_left]
  exact List.isPrefixOf_iff_prefix.2 ⟨b, rfl⟩
 ·rw [Bool.eq_false_iff]
  intro ho
  have := Lib.occAt_head rfl ho
  rw [List.getElem?_append_left hj, List.getElem?_eq_getElem hj] at this
  exact h (by rw [← Option.some.inj this]; exact List.getElem_mem hj)
theorem ix_miss {c : UInt8} {t a : List UInt8} (h : c ∉ a) : Lib.index a (c :: t) = -1 := by
 refine Lib.index_none (fun j hj => ?_)
 rw [Bool.eq_false_iff]
 intro ho
 have := Lib.occAt_head rfl ho
 exact h (List.mem_of_getElem? this)
theorem split_miss {s sep : List UInt8} (h : Lib.index s sep = -1) : Lib.split s sep = [s] := by
 unfold Lib.split; rw [Lib.count_miss h]; rfl
theorem split_hit {s sep : List UInt8} {i : Nat} (hs : sep ≠ []) (h : Lib.index s sep = i) : Lib.split s sep = s.take i :: Lib.split (s.drop (i + sep.length)) sep := by
 have hm : ¬ (Lib.index s sep == -1) = true := fun e => by have := beq_iff_eq.1 e; omega
 have e : (Lib.index s sep).toNat = i := by omega
 unfold Lib.split
 rw [Lib.count_hit hs h, Nat.add_comm 1, Lib.splitK, if_neg hm, e]
 rfl
def rgC (c : UInt8) : Bool := c == 9 || (decide (32 ≤ c.toNat) && decide (c.toNat ≠ 127))
def rgL (l : List UInt8) : Bool := l.all rgC
def flat (ls : List (List UInt8)) : List UInt8 := (ls.map (· ++ [13, 10])).flatten
def lnG : List UInt8 → List UInt8 → Option (List (List UInt8))
 | [], cur => if cur.isEmpty then some [] else none
 | c :: t, cur =>
  if rgC c then lnG t (cur ++ [c])
  else match t with
   | d :: t' => if c = 13 ∧ d = 10 then (lnG t' []).map (cur :: ·) else none
   | [] => none
end Go.Proofs.YtgelfnjicglmbaaGreatDoor.S

