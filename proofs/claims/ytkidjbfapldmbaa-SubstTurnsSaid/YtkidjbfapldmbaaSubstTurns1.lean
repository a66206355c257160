/- For every input SubstTurns returns true and leaves its arguments as they were. -/
import Derived.Test.YtkidjbfapldmbaaRows
import Derived.WalkKit
import Derived.ProofKit
import Derived.OpenShut
import Derived.ShutString
import Derived.ChangeOld
import Derived.Below
import Derived.Carry
import Derived.JoinedOf


namespace Go.Proofs.Ytkidjbfapldmbaa.substTurnsDone
set_option linter.unusedVariables false
set_option linter.unusedSimpArgs false
open Go.ChangeShapes Go.WideShapes Go.ChangeAt Go.RowKit

theorem j0 : (Rows.substTurnsRow.wf (OpenSpec.ofChange Rows.substTurnsSpec)) = true := by kernel_rfl
theorem j1 : (laidOutB Try.pinned.checked.prog) = true := by kernel_rfl
theorem j2 : (mapsRowed Try.pinned.checked.prog) = true := by kernel_rfl
theorem j3 : (Try.f19.params.all (Try.pinned.checked.prog.readableRec ·)) = true := by kernel_rfl
theorem j4 : (namedTie Try.pinned.checked.prog Rows.substTurnsRow.named (Rows.substTurnsSpec).vars) = true := by kernel_rfl
theorem j5 : ((Rows.substTurnsRow.stops == [])) = true := by kernel_rfl
theorem j6 : ((Try.pinned.checked.prog.stops == [])) = true := by kernel_rfl
theorem j7 : ((Rows.substTurnsRow.knobs == [])) = true := by kernel_rfl
theorem j8 : ((Try.pinned.checked.prog.stopKnobs == [])) = true := by kernel_rfl
theorem j9 : ((Rows.substTurnsRow.inPlace == Try.pinned.checked.prog.inPlace 19)) = true := by kernel_rfl
theorem j10 : ((Rows.substTurnsRow.unfollowed == Try.pinned.checked.prog.unfollowed 19)) = true := by kernel_rfl
theorem j11 : ((Rows.substTurnsRow.recurses == Try.pinned.checked.prog.recurses 19)) = true := by kernel_rfl
theorem j12 : ((Rows.substTurnsRow.named == Try.pinned.checked.prog.varsNamed 19)) = true := by kernel_rfl
theorem j13 : ((Rows.substTurnsRow.maps == (Try.f19.params.toList ++ (Rows.substTurnsSpec).plain.varTypes Try.pinned.checked.prog).any (Try.pinned.checked.prog.mapsRec ·))) = true := by kernel_rfl
theorem j14 : ((Rows.substTurnsRow.ifaces == (Try.f19.params.toList ++ (Rows.substTurnsSpec).plain.varTypes Try.pinned.checked.prog).any (Try.pinned.checked.prog.ifacesRec ·))) = true := by kernel_rfl
theorem j15 : ((Rows.substTurnsRow.mapsOut == Try.pinned.checked.prog.mapsAmong Try.f19.resultTypes.toList)) = true := by kernel_rfl
theorem j16 : ((Rows.substTurnsRow.loops == (Try.f19.params.toList ++ (Rows.substTurnsSpec).plain.varTypes Try.pinned.checked.prog).any (Try.pinned.checked.prog.loopsFrom ·))) = true := by kernel_rfl
theorem j17 : ((Rows.substTurnsRow.wideKeys == (Try.f19.params.toList ++ (Rows.substTurnsSpec).plain.varTypes Try.pinned.checked.prog ++ Try.f19.resultTypes.toList).any (Try.pinned.checked.prog.wideKeysFrom ·))) = true := by kernel_rfl
theorem j18 : ((Rows.substTurnsSpec).vars.all (Try.pinned.checked.prog.varReadable ·)) = true := by kernel_rfl
theorem j19 : (Try.f19.resultTypes.all (fun t => Try.pinned.checked.prog.readableRec t && decide (t < Try.pinned.checked.prog.types.size))) = true := by kernel_rfl
theorem j20 : ((Rows.substTurnsRow.ifacesOut == Try.f19.resultTypes.toList.any (Try.pinned.checked.prog.ifacesRec ·))) = true := by kernel_rfl
theorem j21 : ((Rows.substTurnsRow.loopsOut == Try.f19.resultTypes.toList.any (Try.pinned.checked.prog.loopsFrom ·))) = true := by kernel_rfl
theorem j22 : ((Rows.substTurnsRow.plainKeys == Try.pinned.checked.prog.plainKeys)) = true := by kernel_rfl
theorem j23 : (Rows.substTurnsRow.shortTexts.isNone) = true := by kernel_rfl
theorem j24 : (Try.pinned.checked.prog.stopsHeard) = true := by kernel_rfl
theorem j25 : (Try.pinned.checked.prog.mayEnter) = true := by kernel_rfl
theorem j26 : ((Rows.substTurnsRow.lifted == Try.pinned.checked.prog.liftsFinal)) = true := by kernel_rfl
theorem j27 : ((Try.pinned.checked.prog.make == some Rows.substTurnsRow.make)) = true := by kernel_rfl
theorem j28 : ((Rows.substTurnsRow.kinds == (if Rows.substTurnsRow.domain.isEmpty then [] else Try.f19.params.toList.map fun t => match Try.pinned.checked.prog.underlying t with | some (.int k) => some k | _ => none))) = true := by kernel_rfl
theorem j29 : ((Rows.substTurnsRow.pinned == Rows.substTurnsRow.pinnedBy)) = true := by kernel_rfl
theorem j30 : ((Rows.substTurnsRow.veiled == (Try.f19.params.toList ++ (Rows.substTurnsSpec).plain.varTypes Try.pinned.checked.prog ++ Try.f19.resultTypes.toList).any (Try.pinned.checked.prog.veiledRec ·))) = true := by kernel_rfl
theorem j31 : (Rows.substTurnsRow.veiledFits Try.pinned.checked.prog Try.f19.params.toList (Try.f19.params.toList ++ (Rows.substTurnsSpec).plain.varTypes Try.pinned.checked.prog ++ Try.f19.resultTypes.toList)) = true := by kernel_rfl
end Go.Proofs.Ytkidjbfapldmbaa.substTurnsDone
