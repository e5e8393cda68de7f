/- What the text layer's functions come to. -/
import Derived.Test.YtacjnapgdikhbaaGreatDoorTX
import Derived.Test.YtacjnapgdikhbaaGreatDoorQx7
namespace Go.Proofs.YtacjnapgdikhbaaGreatDoor.S
open Go.RowKit Go.Proofs.YtacjnapgdikhbaaGreatDoor.Q Go.Proofs.YtacjnapgdikhbaaGreatDoorW.PrintWords Go.Proofs.YtacjnapgdikhbaaGreatDoorW.PrintLast Go.Proofs.YtacjnapgdikhbaaGreatDoorW.PrintMore
set_option linter.unusedVariables false
set_option linter.unusedSimpArgs false
theorem trim_f {x : ByteArray} (hx : x.size ≤ 70368744177) : text_Trim.f x = some (B (trimL (L x))) := by
  unfold text_Trim.f strings_Trim.f
  rw [if_pos ⟨by omega, by decide, by decide⟩]
  simp only [Option.bind_some]
  have : Lib.trimS x.data.toList (⟨#[32, 9]⟩ : ByteArray).data.toList = trimL (L x) := by
    unfold Lib.trimS Lib.trimLeftS Lib.trimRightS
    simp only [show (⟨#[32, 9]⟩ : ByteArray).data.toList = [32, 9] from rfl, bl_has]
    exact trim_both blC (L x)
  rw [this]; rfl
end Go.Proofs.YtacjnapgdikhbaaGreatDoor.S
