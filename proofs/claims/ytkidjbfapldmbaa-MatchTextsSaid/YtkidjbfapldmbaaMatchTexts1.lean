/- For every input MatchTexts returns true and leaves its arguments as they were. -/
import Derived.Test.YtkidjbfapldmbaaRows
import Derived.WalkKit
import Derived.ProofKit
import Derived.OpenShut
import Derived.ShutString
import Derived.ChangeOld
import Derived.Below
import Derived.Carry
import Derived.JoinedOf


import Derived.Laws.Cover2
namespace Go.Proofs.Ytkidjbfapldmbaa.matchTextsDone
set_option linter.unusedVariables false
set_option linter.unusedSimpArgs false
open Go.ChangeShapes Go.WideShapes Go.ChangeAt Go.RowKit

theorem j0 : (Rows.matchTextsRow.wf (OpenSpec.ofChange Rows.matchTextsSpec)) = true := by kernel_rfl
theorem j1 : (laidOutB Try.pinned.checked.prog) = true := by kernel_rfl
theorem j2 : (mapsRowed Try.pinned.checked.prog) = true := by kernel_rfl
theorem j3 : (Try.f11.params.all (Try.pinned.checked.prog.readableRec ·)) = true := by kernel_rfl
theorem j4 : (namedTie Try.pinned.checked.prog Rows.matchTextsRow.named (Rows.matchTextsSpec).vars) = true := by kernel_rfl
theorem j5 : ((Rows.matchTextsRow.stops == [])) = true := by kernel_rfl
theorem j6 : ((Try.pinned.checked.prog.stops == [])) = true := by kernel_rfl
theorem j7 : ((Rows.matchTextsRow.knobs == [])) = true := by kernel_rfl
theorem j8 : ((Try.pinned.checked.prog.stopKnobs == [])) = true := by kernel_rfl
theorem j9 : ((Rows.matchTextsRow.inPlace == Try.pinned.checked.prog.inPlace 11)) = true := by kernel_rfl
theorem j10 : ((Rows.matchTextsRow.unfollowed == Try.pinned.checked.prog.unfollowed 11)) = true := by kernel_rfl
theorem j11 : ((Rows.matchTextsRow.recurses == Try.pinned.checked.prog.recurses 11)) = true := by kernel_rfl
theorem j12 : ((Rows.matchTextsRow.named == Try.pinned.checked.prog.varsNamed 11)) = true := by kernel_rfl
theorem j13 : ((Rows.matchTextsRow.maps == (Try.f11.params.toList ++ (Rows.matchTextsSpec).plain.varTypes Try.pinned.checked.prog).any (Try.pinned.checked.prog.mapsRec ·))) = true := by kernel_rfl
theorem j14 : ((Rows.matchTextsRow.ifaces == (Try.f11.params.toList ++ (Rows.matchTextsSpec).plain.varTypes Try.pinned.checked.prog).any (Try.pinned.checked.prog.ifacesRec ·))) = true := by kernel_rfl
theorem j15 : ((Rows.matchTextsRow.mapsOut == Try.pinned.checked.prog.mapsAmong Try.f11.resultTypes.toList)) = true := by kernel_rfl
theorem j16 : ((Rows.matchTextsRow.loops == (Try.f11.params.toList ++ (Rows.matchTextsSpec).plain.varTypes Try.pinned.checked.prog).any (Try.pinned.checked.prog.loopsFrom ·))) = true := by kernel_rfl
theorem j17 : ((Rows.matchTextsRow.wideKeys == (Try.f11.params.toList ++ (Rows.matchTextsSpec).plain.varTypes Try.pinned.checked.prog ++ Try.f11.resultTypes.toList).any (Try.pinned.checked.prog.wideKeysFrom ·))) = true := by kernel_rfl
theorem j18 : ((Rows.matchTextsSpec).vars.all (Try.pinned.checked.prog.varReadable ·)) = true := by kernel_rfl
theorem j19 : (Try.f11.resultTypes.all (fun t => Try.pinned.checked.prog.readableRec t && decide (t < Try.pinned.checked.prog.types.size))) = true := by kernel_rfl
theorem j20 : ((Rows.matchTextsRow.ifacesOut == Try.f11.resultTypes.toList.any (Try.pinned.checked.prog.ifacesRec ·))) = true := by kernel_rfl
theorem j21 : ((Rows.matchTextsRow.loopsOut == Try.f11.resultTypes.toList.any (Try.pinned.checked.prog.loopsFrom ·))) = true := by kernel_rfl
theorem j22 : ((Rows.matchTextsRow.plainKeys == Try.pinned.checked.prog.plainKeys)) = true := by kernel_rfl
theorem j23 : (Rows.matchTextsRow.shortTexts.isNone) = true := by kernel_rfl
theorem j24 : (Try.pinned.checked.prog.stopsHeard) = true := by kernel_rfl
theorem j25 : (Try.pinned.checked.prog.mayEnter) = true := by kernel_rfl
theorem j26 : ((Rows.matchTextsRow.lifted == Try.pinned.checked.prog.liftsFinal)) = true := by kernel_rfl
theorem j27 : ((Try.pinned.checked.prog.make == some Rows.matchTextsRow.make)) = true := by kernel_rfl
theorem j28 : ((Rows.matchTextsRow.kinds == (if Rows.matchTextsRow.domain.isEmpty then [] else Try.f11.params.toList.map fun t => match Try.pinned.checked.prog.underlying t with | some (.int k) => some k | _ => none))) = true := by kernel_rfl
theorem j29 : ((Rows.matchTextsRow.pinned == Rows.matchTextsRow.pinnedBy)) = true := by kernel_rfl
theorem j30 : ((Rows.matchTextsRow.veiled == (Try.f11.params.toList ++ (Rows.matchTextsSpec).plain.varTypes Try.pinned.checked.prog ++ Try.f11.resultTypes.toList).any (Try.pinned.checked.prog.veiledRec ·))) = true := by kernel_rfl
theorem j31 : (Rows.matchTextsRow.veiledFits Try.pinned.checked.prog Try.f11.params.toList (Try.f11.params.toList ++ (Rows.matchTextsSpec).plain.varTypes Try.pinned.checked.prog ++ Try.f11.resultTypes.toList)) = true := by kernel_rfl
end Go.Proofs.Ytkidjbfapldmbaa.matchTextsDone
