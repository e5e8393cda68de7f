/- The chapter's rows, as the functions tell them. -/
import Derived.Test.YtfeihligcondgaaDoorS
import Derived.Test.YtfeihligcondgaaDoorBx1
import Derived.Test.YtfeihligcondgaaDoorBx2
namespace Go.Proofs.YtfeihligcondgaaDoor.S
open Go.RowKit Go.Proofs.YtfeihligcondgaaDoor.B Go.Proofs.YtfeihligcondgaaDoorW.PrintWords Go.Proofs.YtfeihligcondgaaDoorW.PrintLast Go.Proofs.YtfeihligcondgaaDoorW.PrintMore
theorem tells_f : Ev (fun k => postriderlaw04_tells.f k) true := by
  unfold postriderlaw04_tells.f
  refine Ev.bindc (a := (⟨#[34, 97, 92, 34, 98, 34]⟩, 0)) (by decide +kernel) ?_
  refine Ev.bind2 (a := (⟨#[120, 32, 121]⟩, 5, 0)) (Ev.of (k := 12) (fun k => text_Quoted.mono _ k) (by decide +kernel)) ?_
  refine Ev.bind2 (a := (9, 0)) (Ev.of (k := 40) (fun k => text_Blank.mono _ k) (by decide +kernel)) ?_
  exact Ev.eq (f := fun _ => some true) (fun k => by decide +kernel) (Ev.pure _)
end Go.Proofs.YtfeihligcondgaaDoor.S
