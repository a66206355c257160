/- For every input SubstFirst returns true and leaves its arguments as they were. -/
import Derived.Test.YtkidjbfapldmbaaRows
import Derived.WalkKit
import Derived.ProofKit
import Derived.OpenShut
import Derived.ShutString
import Derived.ChangeOld
import Derived.Below
import Derived.Carry
import Derived.JoinedOf

namespace Go.Proofs.Ytkidjbfapldmbaa.substFirstDone
set_option linter.unusedVariables false
set_option linter.unusedSimpArgs false
open Go.ChangeShapes Go.WideShapes Go.ChangeAt Go.RowKit

theorem j0 : (Rows.substFirstRow.wf (OpenSpec.ofChange Rows.substFirstSpec)) = true := by kernel_rfl
theorem j1 : (laidOutB Try.pinned.checked.prog) = true := by kernel_rfl
theorem j2 : (mapsRowed Try.pinned.checked.prog) = true := by kernel_rfl
theorem j3 : (Try.f17.params.all (Try.pinned.checked.prog.readableRec ·)) = true := by kernel_rfl
theorem j4 : (namedTie Try.pinned.checked.prog Rows.substFirstRow.named (Rows.substFirstSpec).vars) = true := by kernel_rfl
theorem j5 : ((Rows.substFirstRow.stops == [])) = true := by kernel_rfl
theorem j6 : ((Try.pinned.checked.prog.stops == [])) = true := by kernel_rfl
theorem j7 : ((Rows.substFirstRow.knobs == [])) = true := by kernel_rfl
theorem j8 : ((Try.pinned.checked.prog.stopKnobs == [])) = true := by kernel_rfl
theorem j9 : ((Rows.substFirstRow.inPlace == Try.pinned.checked.prog.inPlace 17)) = true := by kernel_rfl
theorem j10 : ((Rows.substFirstRow.unfollowed == Try.pinned.checked.prog.unfollowed 17)) = true := by kernel_rfl
theorem j11 : ((Rows.substFirstRow.recurses == Try.pinned.checked.prog.recurses 17)) = true := by kernel_rfl
theorem j12 : ((Rows.substFirstRow.named == Try.pinned.checked.prog.varsNamed 17)) = true := by kernel_rfl
theorem j13 : ((Rows.substFirstRow.maps == (Try.f17.params.toList ++ (Rows.substFirstSpec).plain.varTypes Try.pinned.checked.prog).any (Try.pinned.checked.prog.mapsRec ·))) = true := by kernel_rfl
theorem j14 : ((Rows.substFirstRow.ifaces == (Try.f17.params.toList ++ (Rows.substFirstSpec).plain.varTypes Try.pinned.checked.prog).any (Try.pinned.checked.prog.ifacesRec ·))) = true := by kernel_rfl
theorem j15 : ((Rows.substFirstRow.mapsOut == Try.pinned.checked.prog.mapsAmong Try.f17.resultTypes.toList)) = true := by kernel_rfl
theorem j16 : ((Rows.substFirstRow.loops == (Try.f17.params.toList ++ (Rows.substFirstSpec).plain.varTypes Try.pinned.checked.prog).any (Try.pinned.checked.prog.loopsFrom ·))) = true := by kernel_rfl
theorem j17 : ((Rows.substFirstRow.wideKeys == (Try.f17.params.toList ++ (Rows.substFirstSpec).plain.varTypes Try.pinned.checked.prog ++ Try.f17.resultTypes.toList).any (Try.pinned.checked.prog.wideKeysFrom ·))) = true := by kernel_rfl
theorem j18 : ((Rows.substFirstSpec).vars.all (Try.pinned.checked.prog.varReadable ·)) = true := by kernel_rfl
theorem j19 : (Try.f17.resultTypes.all (fun t => Try.pinned.checked.prog.readableRec t && decide (t < Try.pinned.checked.prog.types.size))) = true := by kernel_rfl
theorem j20 : ((Rows.substFirstRow.ifacesOut == Try.f17.resultTypes.toList.any (Try.pinned.checked.prog.ifacesRec ·))) = true := by kernel_rfl
theorem j21 : ((Rows.substFirstRow.loopsOut == Try.f17.resultTypes.toList.any (Try.pinned.checked.prog.loopsFrom ·))) = true := by kernel_rfl
theorem j22 : ((Rows.substFirstRow.plainKeys == Try.pinned.checked.prog.plainKeys)) = true := by kernel_rfl
theorem j23 : (Rows.substFirstRow.shortTexts.isNone) = true := by kernel_rfl
theorem j24 : (Try.pinned.checked.prog.stopsHeard) = true := by kernel_rfl
theorem j25 : (Try.pinned.checked.prog.mayEnter) = true := by kernel_rfl
theorem j26 : ((Rows.substFirstRow.lifted == Try.pinned.checked.prog.liftsFinal)) = true := by kernel_rfl
theorem j27 : ((Try.pinned.checked.prog.make == some Rows.substFirstRow.make)) = true := by kernel_rfl
theorem j28 : ((Rows.substFirstRow.kinds == (if Rows.substFirstRow.domain.isEmpty then [] else Try.f17.params.toList.map fun t => match Try.pinned.checked.prog.underlying t with | some (.int k) => some k | _ => none))) = true := by kernel_rfl
theorem j29 : ((Rows.substFirstRow.pinned == Rows.substFirstRow.pinnedBy)) = true := by kernel_rfl
theorem j30 : ((Rows.substFirstRow.veiled == (Try.f17.params.toList ++ (Rows.substFirstSpec).plain.varTypes Try.pinned.checked.prog ++ Try.f17.resultTypes.toList).any (Try.pinned.checked.prog.veiledRec ·))) = true := by kernel_rfl
theorem j31 : (Rows.substFirstRow.veiledFits Try.pinned.checked.prog Try.f17.params.toList (Try.f17.params.toList ++ (Rows.substFirstSpec).plain.varTypes Try.pinned.checked.prog ++ Try.f17.resultTypes.toList)) = true := by kernel_rfl
end Go.Proofs.Ytkidjbfapldmbaa.substFirstDone
