/- For every input SubstBeyond returns true and leaves its arguments as they were. -/
import Derived.Test.YtkidjbfapldmbaaRows
import Derived.WalkKit
import Derived.ProofKit
import Derived.OpenShut
import Derived.ShutString
import Derived.ChangeOld
import Derived.Below
import Derived.Carry
import Derived.JoinedOf

namespace Go.Proofs.Ytkidjbfapldmbaa.substBeyondDone
set_option linter.unusedVariables false
set_option linter.unusedSimpArgs false
open Go.ChangeShapes Go.WideShapes Go.ChangeAt Go.RowKit

theorem j0 : (Rows.substBeyondRow.wf (OpenSpec.ofChange Rows.substBeyondSpec)) = true := by kernel_rfl
theorem j1 : (laidOutB Try.pinned.checked.prog) = true := by kernel_rfl
theorem j2 : (mapsRowed Try.pinned.checked.prog) = true := by kernel_rfl
theorem j3 : (Try.f18.params.all (Try.pinned.checked.prog.readableRec ·)) = true := by kernel_rfl
theorem j4 : (namedTie Try.pinned.checked.prog Rows.substBeyondRow.named (Rows.substBeyondSpec).vars) = true := by kernel_rfl
theorem j5 : ((Rows.substBeyondRow.stops == [])) = true := by kernel_rfl
theorem j6 : ((Try.pinned.checked.prog.stops == [])) = true := by kernel_rfl
theorem j7 : ((Rows.substBeyondRow.knobs == [])) = true := by kernel_rfl
theorem j8 : ((Try.pinned.checked.prog.stopKnobs == [])) = true := by kernel_rfl
theorem j9 : ((Rows.substBeyondRow.inPlace == Try.pinned.checked.prog.inPlace 18)) = true := by kernel_rfl
theorem j10 : ((Rows.substBeyondRow.unfollowed == Try.pinned.checked.prog.unfollowed 18)) = true := by kernel_rfl
theorem j11 : ((Rows.substBeyondRow.recurses == Try.pinned.checked.prog.recurses 18)) = true := by kernel_rfl
theorem j12 : ((Rows.substBeyondRow.named == Try.pinned.checked.prog.varsNamed 18)) = true := by kernel_rfl
theorem j13 : ((Rows.substBeyondRow.maps == (Try.f18.params.toList ++ (Rows.substBeyondSpec).plain.varTypes Try.pinned.checked.prog).any (Try.pinned.checked.prog.mapsRec ·))) = true := by kernel_rfl
theorem j14 : ((Rows.substBeyondRow.ifaces == (Try.f18.params.toList ++ (Rows.substBeyondSpec).plain.varTypes Try.pinned.checked.prog).any (Try.pinned.checked.prog.ifacesRec ·))) = true := by kernel_rfl
theorem j15 : ((Rows.substBeyondRow.mapsOut == Try.pinned.checked.prog.mapsAmong Try.f18.resultTypes.toList)) = true := by kernel_rfl
theorem j16 : ((Rows.substBeyondRow.loops == (Try.f18.params.toList ++ (Rows.substBeyondSpec).plain.varTypes Try.pinned.checked.prog).any (Try.pinned.checked.prog.loopsFrom ·))) = true := by kernel_rfl
theorem j17 : ((Rows.substBeyondRow.wideKeys == (Try.f18.params.toList ++ (Rows.substBeyondSpec).plain.varTypes Try.pinned.checked.prog ++ Try.f18.resultTypes.toList).any (Try.pinned.checked.prog.wideKeysFrom ·))) = true := by kernel_rfl
theorem j18 : ((Rows.substBeyondSpec).vars.all (Try.pinned.checked.prog.varReadable ·)) = true := by kernel_rfl
theorem j19 : (Try.f18.resultTypes.all (fun t => Try.pinned.checked.prog.readableRec t && decide (t < Try.pinned.checked.prog.types.size))) = true := by kernel_rfl
theorem j20 : ((Rows.substBeyondRow.ifacesOut == Try.f18.resultTypes.toList.any (Try.pinned.checked.prog.ifacesRec ·))) = true := by kernel_rfl
theorem j21 : ((Rows.substBeyondRow.loopsOut == Try.f18.resultTypes.toList.any (Try.pinned.checked.prog.loopsFrom ·))) = true := by kernel_rfl
theorem j22 : ((Rows.substBeyondRow.plainKeys == Try.pinned.checked.prog.plainKeys)) = true := by kernel_rfl
theorem j23 : (Rows.substBeyondRow.shortTexts.isNone) = true := by kernel_rfl
theorem j24 : (Try.pinned.checked.prog.stopsHeard) = true := by kernel_rfl
theorem j25 : (Try.pinned.checked.prog.mayEnter) = true := by kernel_rfl
theorem j26 : ((Rows.substBeyondRow.lifted == Try.pinned.checked.prog.liftsFinal)) = true := by kernel_rfl
theorem j27 : ((Try.pinned.checked.prog.make == some Rows.substBeyondRow.make)) = true := by kernel_rfl
theorem j28 : ((Rows.substBeyondRow.kinds == (if Rows.substBeyondRow.domain.isEmpty then [] else Try.f18.params.toList.map fun t => match Try.pinned.checked.prog.underlying t with | some (.int k) => some k | _ => none))) = true := by kernel_rfl
theorem j29 : ((Rows.substBeyondRow.pinned == Rows.substBeyondRow.pinnedBy)) = true := by kernel_rfl
theorem j30 : ((Rows.substBeyondRow.veiled == (Try.f18.params.toList ++ (Rows.substBeyondSpec).plain.varTypes Try.pinned.checked.prog ++ Try.f18.resultTypes.toList).any (Try.pinned.checked.prog.veiledRec ·))) = true := by kernel_rfl
theorem j31 : (Rows.substBeyondRow.veiledFits Try.pinned.checked.prog Try.f18.params.toList (Try.f18.params.toList ++ (Rows.substBeyondSpec).plain.varTypes Try.pinned.checked.prog ++ Try.f18.resultTypes.toList)) = true := by kernel_rfl
end Go.Proofs.Ytkidjbfapldmbaa.substBeyondDone
