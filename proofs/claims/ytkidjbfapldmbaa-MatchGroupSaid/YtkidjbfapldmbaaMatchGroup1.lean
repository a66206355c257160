/- For every input MatchGroup returns true and leaves its arguments as they were. -/
import Derived.Test.YtkidjbfapldmbaaRows
import Derived.WalkKit
import Derived.ProofKit
import Derived.OpenShut
import Derived.ShutString
import Derived.ChangeOld
import Derived.Below
import Derived.Carry
import Derived.JoinedOf

namespace Go.Proofs.Ytkidjbfapldmbaa.matchGroupDone
set_option linter.unusedVariables false
set_option linter.unusedSimpArgs false
open Go.ChangeShapes Go.WideShapes Go.ChangeAt Go.RowKit

theorem j0 : (Rows.matchGroupRow.wf (OpenSpec.ofChange Rows.matchGroupSpec)) = true := by kernel_rfl
theorem j1 : (laidOutB Try.pinned.checked.prog) = true := by kernel_rfl
theorem j2 : (mapsRowed Try.pinned.checked.prog) = true := by kernel_rfl
theorem j3 : (Try.f14.params.all (Try.pinned.checked.prog.readableRec ·)) = true := by kernel_rfl
theorem j4 : (namedTie Try.pinned.checked.prog Rows.matchGroupRow.named (Rows.matchGroupSpec).vars) = true := by kernel_rfl
theorem j5 : ((Rows.matchGroupRow.stops == [])) = true := by kernel_rfl
theorem j6 : ((Try.pinned.checked.prog.stops == [])) = true := by kernel_rfl
theorem j7 : ((Rows.matchGroupRow.knobs == [])) = true := by kernel_rfl
theorem j8 : ((Try.pinned.checked.prog.stopKnobs == [])) = true := by kernel_rfl
theorem j9 : ((Rows.matchGroupRow.inPlace == Try.pinned.checked.prog.inPlace 14)) = true := by kernel_rfl
theorem j10 : ((Rows.matchGroupRow.unfollowed == Try.pinned.checked.prog.unfollowed 14)) = true := by kernel_rfl
theorem j11 : ((Rows.matchGroupRow.recurses == Try.pinned.checked.prog.recurses 14)) = true := by kernel_rfl
theorem j12 : ((Rows.matchGroupRow.named == Try.pinned.checked.prog.varsNamed 14)) = true := by kernel_rfl
theorem j13 : ((Rows.matchGroupRow.maps == (Try.f14.params.toList ++ (Rows.matchGroupSpec).plain.varTypes Try.pinned.checked.prog).any (Try.pinned.checked.prog.mapsRec ·))) = true := by kernel_rfl
theorem j14 : ((Rows.matchGroupRow.ifaces == (Try.f14.params.toList ++ (Rows.matchGroupSpec).plain.varTypes Try.pinned.checked.prog).any (Try.pinned.checked.prog.ifacesRec ·))) = true := by kernel_rfl
theorem j15 : ((Rows.matchGroupRow.mapsOut == Try.pinned.checked.prog.mapsAmong Try.f14.resultTypes.toList)) = true := by kernel_rfl
theorem j16 : ((Rows.matchGroupRow.loops == (Try.f14.params.toList ++ (Rows.matchGroupSpec).plain.varTypes Try.pinned.checked.prog).any (Try.pinned.checked.prog.loopsFrom ·))) = true := by kernel_rfl
theorem j17 : ((Rows.matchGroupRow.wideKeys == (Try.f14.params.toList ++ (Rows.matchGroupSpec).plain.varTypes Try.pinned.checked.prog ++ Try.f14.resultTypes.toList).any (Try.pinned.checked.prog.wideKeysFrom ·))) = true := by kernel_rfl
theorem j18 : ((Rows.matchGroupSpec).vars.all (Try.pinned.checked.prog.varReadable ·)) = true := by kernel_rfl
theorem j19 : (Try.f14.resultTypes.all (fun t => Try.pinned.checked.prog.readableRec t && decide (t < Try.pinned.checked.prog.types.size))) = true := by kernel_rfl
theorem j20 : ((Rows.matchGroupRow.ifacesOut == Try.f14.resultTypes.toList.any (Try.pinned.checked.prog.ifacesRec ·))) = true := by kernel_rfl
theorem j21 : ((Rows.matchGroupRow.loopsOut == Try.f14.resultTypes.toList.any (Try.pinned.checked.prog.loopsFrom ·))) = true := by kernel_rfl
theorem j22 : ((Rows.matchGroupRow.plainKeys == Try.pinned.checked.prog.plainKeys)) = true := by kernel_rfl
theorem j23 : (Rows.matchGroupRow.shortTexts.isNone) = true := by kernel_rfl
theorem j24 : (Try.pinned.checked.prog.stopsHeard) = true := by kernel_rfl
theorem j25 : (Try.pinned.checked.prog.mayEnter) = true := by kernel_rfl
theorem j26 : ((Rows.matchGroupRow.lifted == Try.pinned.checked.prog.liftsFinal)) = true := by kernel_rfl
theorem j27 : ((Try.pinned.checked.prog.make == some Rows.matchGroupRow.make)) = true := by kernel_rfl
theorem j28 : ((Rows.matchGroupRow.kinds == (if Rows.matchGroupRow.domain.isEmpty then [] else Try.f14.params.toList.map fun t => match Try.pinned.checked.prog.underlying t with | some (.int k) => some k | _ => none))) = true := by kernel_rfl
theorem j29 : ((Rows.matchGroupRow.pinned == Rows.matchGroupRow.pinnedBy)) = true := by kernel_rfl
theorem j30 : ((Rows.matchGroupRow.veiled == (Try.f14.params.toList ++ (Rows.matchGroupSpec).plain.varTypes Try.pinned.checked.prog ++ Try.f14.resultTypes.toList).any (Try.pinned.checked.prog.veiledRec ·))) = true := by kernel_rfl
theorem j31 : (Rows.matchGroupRow.veiledFits Try.pinned.checked.prog Try.f14.params.toList (Try.f14.params.toList ++ (Rows.matchGroupSpec).plain.varTypes Try.pinned.checked.prog ++ Try.f14.resultTypes.toList)) = true := by kernel_rfl
end Go.Proofs.Ytkidjbfapldmbaa.matchGroupDone
