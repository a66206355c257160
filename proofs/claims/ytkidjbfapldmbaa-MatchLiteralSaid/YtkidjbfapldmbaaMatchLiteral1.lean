/- For every input MatchLiteral returns true and leaves its arguments as they were. -/
import Derived.Test.YtkidjbfapldmbaaRows
import Derived.WalkKit
import Derived.ProofKit
import Derived.OpenShut
import Derived.ShutString
import Derived.ChangeOld
import Derived.Below
import Derived.Carry
import Derived.JoinedOf


namespace Go.Proofs.Ytkidjbfapldmbaa.matchLiteralDone
set_option linter.unusedVariables false
set_option linter.unusedSimpArgs false
open Go.ChangeShapes Go.WideShapes Go.ChangeAt Go.RowKit

theorem j0 : (Rows.matchLiteralRow.wf (OpenSpec.ofChange Rows.matchLiteralSpec)) = true := by kernel_rfl
theorem j1 : (laidOutB Try.pinned.checked.prog) = true := by kernel_rfl
theorem j2 : (mapsRowed Try.pinned.checked.prog) = true := by kernel_rfl
theorem j3 : (Try.f10.params.all (Try.pinned.checked.prog.readableRec ·)) = true := by kernel_rfl
theorem j4 : (namedTie Try.pinned.checked.prog Rows.matchLiteralRow.named (Rows.matchLiteralSpec).vars) = true := by kernel_rfl
theorem j5 : ((Rows.matchLiteralRow.stops == [])) = true := by kernel_rfl
theorem j6 : ((Try.pinned.checked.prog.stops == [])) = true := by kernel_rfl
theorem j7 : ((Rows.matchLiteralRow.knobs == [])) = true := by kernel_rfl
theorem j8 : ((Try.pinned.checked.prog.stopKnobs == [])) = true := by kernel_rfl
theorem j9 : ((Rows.matchLiteralRow.inPlace == Try.pinned.checked.prog.inPlace 10)) = true := by kernel_rfl
theorem j10 : ((Rows.matchLiteralRow.unfollowed == Try.pinned.checked.prog.unfollowed 10)) = true := by kernel_rfl
theorem j11 : ((Rows.matchLiteralRow.recurses == Try.pinned.checked.prog.recurses 10)) = true := by kernel_rfl
theorem j12 : ((Rows.matchLiteralRow.named == Try.pinned.checked.prog.varsNamed 10)) = true := by kernel_rfl
theorem j13 : ((Rows.matchLiteralRow.maps == (Try.f10.params.toList ++ (Rows.matchLiteralSpec).plain.varTypes Try.pinned.checked.prog).any (Try.pinned.checked.prog.mapsRec ·))) = true := by kernel_rfl
theorem j14 : ((Rows.matchLiteralRow.ifaces == (Try.f10.params.toList ++ (Rows.matchLiteralSpec).plain.varTypes Try.pinned.checked.prog).any (Try.pinned.checked.prog.ifacesRec ·))) = true := by kernel_rfl
theorem j15 : ((Rows.matchLiteralRow.mapsOut == Try.pinned.checked.prog.mapsAmong Try.f10.resultTypes.toList)) = true := by kernel_rfl
theorem j16 : ((Rows.matchLiteralRow.loops == (Try.f10.params.toList ++ (Rows.matchLiteralSpec).plain.varTypes Try.pinned.checked.prog).any (Try.pinned.checked.prog.loopsFrom ·))) = true := by kernel_rfl
theorem j17 : ((Rows.matchLiteralRow.wideKeys == (Try.f10.params.toList ++ (Rows.matchLiteralSpec).plain.varTypes Try.pinned.checked.prog ++ Try.f10.resultTypes.toList).any (Try.pinned.checked.prog.wideKeysFrom ·))) = true := by kernel_rfl
theorem j18 : ((Rows.matchLiteralSpec).vars.all (Try.pinned.checked.prog.varReadable ·)) = true := by kernel_rfl
theorem j19 : (Try.f10.resultTypes.all (fun t => Try.pinned.checked.prog.readableRec t && decide (t < Try.pinned.checked.prog.types.size))) = true := by kernel_rfl
theorem j20 : ((Rows.matchLiteralRow.ifacesOut == Try.f10.resultTypes.toList.any (Try.pinned.checked.prog.ifacesRec ·))) = true := by kernel_rfl
theorem j21 : ((Rows.matchLiteralRow.loopsOut == Try.f10.resultTypes.toList.any (Try.pinned.checked.prog.loopsFrom ·))) = true := by kernel_rfl
theorem j22 : ((Rows.matchLiteralRow.plainKeys == Try.pinned.checked.prog.plainKeys)) = true := by kernel_rfl
theorem j23 : (Rows.matchLiteralRow.shortTexts.isNone) = true := by kernel_rfl
theorem j24 : (Try.pinned.checked.prog.stopsHeard) = true := by kernel_rfl
theorem j25 : (Try.pinned.checked.prog.mayEnter) = true := by kernel_rfl
theorem j26 : ((Rows.matchLiteralRow.lifted == Try.pinned.checked.prog.liftsFinal)) = true := by kernel_rfl
theorem j27 : ((Try.pinned.checked.prog.make == some Rows.matchLiteralRow.make)) = true := by kernel_rfl
theorem j28 : ((Rows.matchLiteralRow.kinds == (if Rows.matchLiteralRow.domain.isEmpty then [] else Try.f10.params.toList.map fun t => match Try.pinned.checked.prog.underlying t with | some (.int k) => some k | _ => none))) = true := by kernel_rfl
theorem j29 : ((Rows.matchLiteralRow.pinned == Rows.matchLiteralRow.pinnedBy)) = true := by kernel_rfl
theorem j30 : ((Rows.matchLiteralRow.veiled == (Try.f10.params.toList ++ (Rows.matchLiteralSpec).plain.varTypes Try.pinned.checked.prog ++ Try.f10.resultTypes.toList).any (Try.pinned.checked.prog.veiledRec ·))) = true := by kernel_rfl
theorem j31 : (Rows.matchLiteralRow.veiledFits Try.pinned.checked.prog Try.f10.params.toList (Try.f10.params.toList ++ (Rows.matchLiteralSpec).plain.varTypes Try.pinned.checked.prog ++ Try.f10.resultTypes.toList)) = true := by kernel_rfl
end Go.Proofs.Ytkidjbfapldmbaa.matchLiteralDone
